/- Walks of casing.Copy. (Printed by gen_copy.py.) -/
import Derived.Test.YtannipfohicpmaaCopyMem
namespace Go.Proofs.Ytannipfohicpmaa
open Go.ChangeShapes Go.WideShapes Go.RowKit Go.Shelf Go.Deep Mpl

/-- the job that is copied and the place of the result -/
structure ClSt (w W : World) (a b c : Value) (F O : Int) : Prop where
  job : Box W w.heap.size 36 #[a, b, c, .int .i64 F, .int .i64 O]
  res : Box W (w.heap.size + 1) 36 #[.slice none 0 0, .slice none 0 0, .slice none 0 0, .int .i64 0, .int .i64 0]
  low : Below w.heap.size w W
  size : w.heap.size + 1 + 1 ≤ W.heap.size
section
variable {w W W' : World} {a b c : Value} {F O : Int}
theorem ClSt.under (h : ClSt w W a b c F O) (hb : Below W.heap.size W W') : ClSt w W' a b c F O := ⟨h.job.under hb, h.res.under hb, h.low.trans (hb.mono h.low.size), Nat.le_trans h.size hb.size⟩
theorem ClSt.put0 (h : ClSt w W a b c F O) (u : Value) : ClSt w (W.setCell ⟨w.heap.size, 0, none⟩ u) u b c F O := ⟨by simpa using h.job.set_ 0 u, h.res.far (p := ⟨w.heap.size, 0, none⟩) (by simp) u, h.low.setCell (p := ⟨w.heap.size, 0, none⟩) (by simp) u, by simpa using h.size⟩
theorem ClSt.put1 (h : ClSt w W a b c F O) (u : Value) : ClSt w (W.setCell ⟨w.heap.size, 1, none⟩ u) a u c F O := ⟨by simpa using h.job.set_ 1 u, h.res.far (p := ⟨w.heap.size, 1, none⟩) (by simp) u, h.low.setCell (p := ⟨w.heap.size, 1, none⟩) (by simp) u, by simpa using h.size⟩
theorem ClSt.put2 (h : ClSt w W a b c F O) (u : Value) : ClSt w (W.setCell ⟨w.heap.size, 2, none⟩ u) a b u F O := ⟨by simpa using h.job.set_ 2 u, h.res.far (p := ⟨w.heap.size, 2, none⟩) (by simp) u, h.low.setCell (p := ⟨w.heap.size, 2, none⟩) (by simp) u, by simpa using h.size⟩
theorem ClSt.cells (h : ClSt w W a b c F O) : W.cell? ⟨w.heap.size, 0, none⟩ = some a ∧ W.cell? ⟨w.heap.size, 1, none⟩ = some b ∧ W.cell? ⟨w.heap.size, 2, none⟩ = some c := ⟨h.job.cell 0, h.job.cell 1, h.job.cell 2⟩
theorem ClSt.free (h : ClSt w W a b c F O) : W.frozen? ⟨w.heap.size, 0, none⟩ = false ∧ W.frozen? ⟨w.heap.size, 1, none⟩ = false ∧ W.frozen? ⟨w.heap.size, 2, none⟩ = false := ⟨h.job.frozen 0, h.job.frozen 1, h.job.frozen 2⟩
end

set_option maxHeartbeats 8000000 in
set_option maxRecDepth 100000 in
theorem casing_Copy (j : Job) (v0 : Value) (w : World) (hv : JobV w w.heap.size v0 j) (hE : j.Ends.length ≤ 1000) (hL : j.Loads.length ≤ 1000) (hG : j.Grades.length ≤ 1000) (hK : ∀ i, i < j.Loads.length → (ld j.Loads i).In.length ≤ 1000 ∧ (ld j.Loads i).Out.length ≤ 1000) :
    Calls Try.prog 40 #[v0] w fun e w' => (∃ v, e = .returned v ∧ JobOwn w' w.heap.size v j) ∧ Below w.heap.size w w' := by
  obtain ⟨AE, cE, AL, cL, AG, cG, rfl, hcap, hvE, hvL, hvG⟩ := hv
  obtain ⟨ls, hls, hsrc, hks⟩ := hvL.list
  have HSE := Lib.hid (fun W (hW : Below w.heap.size w W) => clone_int64 _ cE AE _ W (hvE.up hW hW.size).src (int_one j.Ends) hE)
  have HSG := Lib.hid (fun W (hW : Below w.heap.size w W) => clone_grade _ cG AG _ W (hvG.up hW hW.size).src (gradeC_one j.Grades) hG)
  have HSL := Lib.hid (fun W (hW : Below w.heap.size w W) => clone_stress _ cL AL _ W (src_up hsrc hW) (loadC_oneC ls) hL)
  have HLK := Lib.hid hK
  have HLS := Lib.hid hls
  have HKS := Lib.hid hks
  have HFIN : Hid (∀ (W : World) (AE : Option Addr) (cE : Nat) (AL' : Option Addr) (cL' : Nat) (AG : Option Addr) (cG : Nat) (ls : List LoadC), ls.map LoadC.s = j.Loads →
    W.ownsRow (w.heap.size + 1 + 1) 2 1 (.slice AE j.Ends.length cE) j.Ends.length (j.Ends.map (Value.int .i64)) → W.ownsRow (w.heap.size + 1 + 1) 26 2 (.slice AL' j.Loads.length cL') j.Loads.length (ls.flatMap loadC) → (∀ x ∈ ls, LoadOwn W (w.heap.size + 1 + 1) x) →
    W.ownsRow (w.heap.size + 1 + 1) 63 5 (.slice AG j.Grades.length cG) j.Grades.length (j.Grades.flatMap gradeC) → JobOwn W w.heap.size (.agg #[.slice AE j.Ends.length cE, .slice AL' j.Loads.length cL', .slice AG j.Grades.length cG, .int .i64 j.Factor, .int .i64 j.Over]) j) :=
    fun W AE cE AL' cL' AG cG ls h1 h2 h3 h4 h5 => ⟨AE, cE, AL', cL', AG, cG, ls, rfl, h1, own_le h2 (by omega), own_le h3 (by omega), fun x hx => (h4 x hx).le (by omega), own_le h5 (by omega)⟩
  clear hvE hvL hvG hK hcap hls hsrc hks hE hG
  generalize j.Ends.map (Value.int .i64) = es at *
  generalize j.Grades.flatMap gradeC = gs at *
  generalize j.Factor = F at *
  generalize j.Over = O at *
  generalize hnE : j.Ends.length = nE at *
  generalize hnL : j.Loads.length = nL at *
  generalize hnG : j.Grades.length = nG at *
  clear hnE hnG hnL
  generalize j.Loads = lds at *
  obtain ⟨w0, hw0⟩ : ∃ w0, (w.alloc (.cells #[.slice AE nE cE, .slice AL nL cL, .slice AG nG cG, .int .i64 F, .int .i64 O] 36)).alloc (.cells #[.slice none 0 0, .slice none 0 0, .slice none 0 0, .int .i64 0, .int .i64 0] 36) = w0 := ⟨_, rfl⟩
  have HB0 := Lib.hid (show Below w.heap.size w w0 by rw [← hw0]; exact (by repeat (first | exact Below.refl _ _ | assumption | refine Below.setCell ?_ (by first | (simp; done) | (simp; omega)) _ | refine belowDrewN ?_ _ | refine Below.drew ?_ | refine Below.alloc ?_ (by first | (simp; done) | (simp; omega)) _)))
  have CL := Lib.hid (show ClSt w w0 (.slice AE nE cE) (.slice AL nL cL) (.slice AG nG cG) F O from ⟨by rw [← hw0]; exact (Box.new w _ _ rfl).alloc _, by rw [← hw0]; exact Box.new _ _ _ (by simp), HB0.out, by rw [← hw0]; simp⟩)
  have HW0 := Lib.hid hw0
  clear hw0 HB0
  go_enter Try.func40, Try.ntmps40
  go_upto_region 1 with fail
  rw [HW0.out]
  clear HW0
  go_cut [] (fun wx => ∃ AE' cE' AL' cL' AG' cG', Hid (CopySt w wx AL' nL cL' (.slice AE' nE cE') (.slice AG' nG cG') nE nG es gs F O) ∧ Hid (CpRow w wx (w.heap.size + 1 + 1) (.slice AL' nL cL') nL 0 lds ls))
  case first =>
    have D0 := Lib.hid (CL.out.under (Below.refl _ _).drew)
    clear CL
    refine AnyMid.begin (q := 10) (S := (fun (f : Bool) (w' : World) => f = false → w'.cell? ⟨w.heap.size, 0, none⟩ = some (.slice AE nE cE) ∧ w'.cell? ⟨w.heap.size, 1, none⟩ = some (.slice AL nL cL) ∧ w'.cell? ⟨w.heap.size, 2, none⟩ = some (.slice AG nG cG))) (Z := fun _ => false) mixed ?_
    refine AnyMid.takeD (fun _ : World => True) 0 5 (v := .pointer (some ⟨w.heap.size, 0, none⟩)) [] 6 (fun _ h => by cases h) (fun _ _ => trivial) (.inr (fun _ _ => trivial)) (fun _ => D0.out.cells) rfl rfl (by decide +kernel) (fun _ _ _ h => h) (Or.inl ⟨by rfl, fun w' _ => by go_simp⟩) ?_
    simp only [List.setIfInBounds_toArray, List.set_cons_zero, List.set_cons_succ]
    refine AnyMid.takeD (fun w' : World => w'.cell? ⟨w.heap.size, 0, none⟩ = some (.slice AE nE cE) ∧ w'.cell? ⟨w.heap.size, 1, none⟩ = some (.slice AL nL cL) ∧ w'.cell? ⟨w.heap.size, 2, none⟩ = some (.slice AG nG cG)) 1 6 (v := .slice AE nE cE) [] 6 (fun _ h => by cases h) (fun _ h => h rfl) (.inl (by decide +kernel)) (fun _ => D0.out.cells) rfl rfl (by decide +kernel) (fun _ _ _ h => h) (Or.inl ⟨by rfl, fun w' hw' => by (obtain ⟨s0, s1, s2⟩ := hw'; go_simp)⟩) ?_
    simp only [List.setIfInBounds_toArray, List.set_cons_zero, List.set_cons_succ]
    refine AnyMid.takeD (fun _ : World => True) 3 8 (v := .pointer (some ⟨w.heap.size, 2, none⟩)) [] 6 (fun _ h => by cases h) (fun _ _ => trivial) (.inr (fun _ _ => trivial)) (fun _ => D0.out.cells) rfl rfl (by decide +kernel) (fun _ _ _ h => h) (Or.inl ⟨by rfl, fun w' _ => by go_simp⟩) ?_
    simp only [List.setIfInBounds_toArray, List.set_cons_zero, List.set_cons_succ]
    refine AnyMid.takeD (fun w' : World => w'.cell? ⟨w.heap.size, 0, none⟩ = some (.slice AE nE cE) ∧ w'.cell? ⟨w.heap.size, 1, none⟩ = some (.slice AL nL cL) ∧ w'.cell? ⟨w.heap.size, 2, none⟩ = some (.slice AG nG cG)) 4 9 (v := .slice AG nG cG) [] 6 (fun _ h => by cases h) (fun _ h => h rfl) (.inl (by decide +kernel)) (fun _ => D0.out.cells) rfl rfl (by decide +kernel) (fun _ _ _ h => h) (Or.inl ⟨by rfl, fun w' hw' => by (obtain ⟨s0, s1, s2⟩ := hw'; go_simp)⟩) ?_
    simp only [List.setIfInBounds_toArray, List.set_cons_zero, List.set_cons_succ]
    refine AnyMid.takeD (fun _ : World => True) 6 11 (v := .pointer (some ⟨w.heap.size, 1, none⟩)) [] 6 (fun _ h => by cases h) (fun _ _ => trivial) (.inr (fun _ _ => trivial)) (fun _ => D0.out.cells) rfl rfl (by decide +kernel) (fun _ _ _ h => h) (Or.inl ⟨by rfl, fun w' _ => by go_simp⟩) ?_
    simp only [List.setIfInBounds_toArray, List.set_cons_zero, List.set_cons_succ]
    refine AnyMid.takeD (fun w' : World => w'.cell? ⟨w.heap.size, 0, none⟩ = some (.slice AE nE cE) ∧ w'.cell? ⟨w.heap.size, 1, none⟩ = some (.slice AL nL cL) ∧ w'.cell? ⟨w.heap.size, 2, none⟩ = some (.slice AG nG cG)) 7 12 (v := .slice AL nL cL) [] 6 (fun _ h => by cases h) (fun _ h => h rfl) (.inl (by decide +kernel)) (fun _ => D0.out.cells) rfl rfl (by decide +kernel) (fun _ _ _ h => h) (Or.inl ⟨by rfl, fun w' hw' => by (obtain ⟨s0, s1, s2⟩ := hw'; go_simp)⟩) ?_
    simp only [List.setIfInBounds_toArray, List.set_cons_zero, List.set_cons_succ]
    refine AnyMid.only (i := 2) (by decide +kernel) rfl rfl (fun K hK => ?_)
    go_wp2_with fail
    refine (HSE.out _ D0.out.low).mono ?_
    rintro e W1 ⟨⟨AE', cE', rfl, ho⟩, hb⟩
    have D1 := Lib.hid (D0.out.under hb)
    have OE := Lib.hid (own_le ho D0.out.size)
    clear ho hb
    refine hK _ _ (fun _ _ => D1.out.cells) ?_
    clear hK K
    refine AnyMid.takeD (fun _ : World => True) 9 14 (v := .pointer (some ⟨w.heap.size, 0, none⟩)) [] 6 (fun _ h => by cases h) (fun _ _ => trivial) (.inr (fun _ _ => trivial)) (fun _ => D1.out.cells) rfl rfl (by decide +kernel) (fun _ _ _ h => h) (Or.inl ⟨by rfl, fun w' _ => by go_simp⟩) ?_
    simp only [List.setIfInBounds_toArray, List.set_cons_zero, List.set_cons_succ]
    refine AnyMid.only (i := 5) (by decide +kernel) rfl rfl (fun K hK => ?_)
    go_wp2_with fail
    refine (HSG.out _ D1.out.low).mono ?_
    rintro e W2 ⟨⟨AG', cG', rfl, ho⟩, hb⟩
    have D2 := Lib.hid (D1.out.under hb)
    have OG := Lib.hid (own_le ho D1.out.size)
    replace OE := Lib.hid (own_under OE.out hb)
    clear ho hb
    refine hK _ _ (fun _ _ => D2.out.cells) ?_
    clear hK K
    refine AnyMid.only (i := 8) (by decide +kernel) rfl rfl (fun K hK => ?_)
    go_wp2_with fail
    refine (HSL.out _ D2.out.low).mono ?_
    rintro e W3 ⟨⟨AL', cL', rfl, ho⟩, hb⟩
    have D3 := Lib.hid (D2.out.under hb)
    have OL := Lib.hid (own_le ho D2.out.size)
    replace OE := Lib.hid (own_under OE.out hb)
    replace OG := Lib.hid (own_under OG.out hb)
    clear ho hb D0 D1 D2 HSE HSG HSL
    refine hK _ _ (fun _ _ => D3.out.cells) ?_
    clear hK K
    obtain ⟨c0, c1, c2⟩ := D3.out.cells
    obtain ⟨f0, f1, f2⟩ := D3.out.free
    refine AnyMid.only (i := 10) (by decide +kernel) rfl rfl (fun K hK => ?_)
    go_wp2_with fail
    refine hK _ _ (fun _ h => by cases h) ?_
    clear hK K
    refine AnyMid.only (i := 11) (by decide +kernel) rfl rfl (fun K hK => ?_)
    go_wp2_with fail
    refine hK _ _ (fun _ h => by cases h) ?_
    clear hK K
    refine AnyMid.only (i := 12) (by decide +kernel) rfl rfl (fun K hK => ?_)
    go_wp2_with fail
    refine hK _ _ (fun _ h => by cases h) ?_
    clear hK K
    refine AnyMid.only (i := 13) (by decide +kernel) rfl rfl (fun K hK => ?_)
    go_wp2_with fail
    refine hK _ _ (fun _ h => by cases h) ?_
    clear hK K
    refine AnyMid.only (i := 14) (by decide +kernel) rfl rfl (fun K hK => ?_)
    go_wp2_with fail
    refine hK _ _ (fun _ h => by cases h) ?_
    clear hK K
    refine AnyMid.done (by decide +kernel) ?_
    go_wp2_with fail
    go_meet
    have E1 := ((D3.out.put0 (.slice AE' nE cE')).put2 (.slice AG' nG cG')).put1 (.slice AL' nL cL')
    refine ⟨AE', cE', AL', cL', AG', cG', ⟨E1.job, E1.res, own_far (p := ⟨w.heap.size, 1, none⟩) (own_far (p := ⟨w.heap.size, 2, none⟩) (own_far (p := ⟨w.heap.size, 0, none⟩) OE.out (by simp; omega) _) (by simp; omega) _) (by simp; omega) _, own_far (p := ⟨w.heap.size, 1, none⟩) (own_far (p := ⟨w.heap.size, 2, none⟩) (own_far (p := ⟨w.heap.size, 0, none⟩) OG.out (by simp; omega) _) (by simp; omega) _) (by simp; omega) _, E1.low, E1.size⟩, ⟨own_far (p := ⟨w.heap.size, 1, none⟩) (own_far (p := ⟨w.heap.size, 2, none⟩) (own_far (p := ⟨w.heap.size, 0, none⟩) OL.out (by simp; omega) _) (by simp; omega) _) (by simp; omega) _, HLS.out, fun i x _ h => absurd h (by omega), fun i x hx _ => HKS.out x (List.mem_of_getElem? hx)⟩⟩
  case rest =>
    obtain ⟨AE', cE', AL', cL', AG', cG', HC, HR⟩ := hcut
    clear CL HSE HSG HSL HLS HKS
    have q1 := (show wc.cell? ⟨w.heap.size, 1, none⟩ = some (.slice AL' nL cL') from HC.out.job.cell 1)
    go_wp2_with fail
    clear q1
    go_loopw [20] (fun s20 wr => ∃ (k : Nat) (ms : List LoadC), k ≤ nL ∧ s20 = .int .i64 k ∧ Hid (CopySt w wr AL' nL cL' (.slice AE' nE cE') (.slice AG' nG cG') nE nG es gs F O) ∧ Hid (CpRow w wr (w.heap.size + 1 + 1) (.slice AL' nL cL') nL k lds ms)) (fun s20 _ => nL - (intOf s20).toNat)
    case atStart => exact ⟨0, ls, Nat.zero_le _, rfl, HC, HR⟩
    case round =>
      clear HC HR
      obtain ⟨k, ms, hk, rfl, HC, HR⟩ := hrel
      by_cases hlt : k < nL
      · have t0 : decide (k < nL) = true := decide_eq_true hlt
        have z0 : (k : Int) < (nL : Int) := by omega
        obtain ⟨g, cs, x, rfl, hgB, HX, hmx, hxs, c0, c1, f0, f1⟩ := HR.out.at_ hlt
        obtain ⟨n0, n1⟩ := HLK.out k hlt
        obtain ⟨r0, r1⟩ := HR.out.rest k x hmx (Nat.le_refl k)
        have HXS := Lib.hid hxs.symm
        rw [← hxs] at n0 n1
        have HLI := Lib.hid (fun W (hW : Below w.heap.size w W) => clone_knot _ x.cI x.AI _ W (r0.up hW hW.size).src (knotC_one _) n0)
        have HLO := Lib.hid (fun W (hW : Below w.heap.size w W) => clone_knot _ x.cO x.AO _ W (r1.up hW hW.size).src (knotC_one _) n1)
        have HBX := Lib.hid HX
        have HGB := Lib.hid hgB
        clear hmx hxs n0 n1 r0 r1 HX
        generalize x.AI = AI at *; generalize x.AO = AO at *; generalize x.cI = cI at *; generalize x.cO = cO at *; generalize x.s = s at *
        have q1 := (show wr.cell? ⟨w.heap.size, 1, none⟩ = some (.slice (some ⟨g, 0, none⟩) nL cL') from HC.out.job.cell 1)
        have hlg : g < wr.heap.size := HBX.out.lt
        go_wp2_with fail
        clear t0 q1
        have C0 := Lib.hid (HC.out.under (Below.refl _ wr).drew)
        have R0 := Lib.hid (HR.out.under (Below.refl _ wr).drew)
        have X0 := Lib.hid HBX.out.drew
        have SS : wr.drew.cell? ⟨g, k * 2, none⟩ = some (.slice AI s.In.length cI) ∧ wr.drew.cell? ⟨g, k * 2 + 1, none⟩ = some (.slice AO s.Out.length cO) := ⟨c0, c1⟩
        clear HC HR HBX c0 c1 f0 f1
        refine AnyMid.begin (q := 17) (S := (fun (f : Bool) (w' : World) => f = false → w'.cell? ⟨g, k * 2, none⟩ = some (.slice AI s.In.length cI) ∧ w'.cell? ⟨g, k * 2 + 1, none⟩ = some (.slice AO s.Out.length cO))) (Z := fun _ => false) mixed ?_
        refine AnyMid.takeD (fun _ : World => True) 0 27 (v := .pointer (some ⟨g, k * 2, none⟩)) [] 6 (fun _ h => by cases h) (fun _ _ => trivial) (.inr (fun _ _ => trivial)) (fun _ => SS) rfl rfl (by decide +kernel) (fun _ _ _ h => h) (Or.inl ⟨by rfl, fun w' _ => by go_simp⟩) ?_
        simp only [List.setIfInBounds_toArray, List.set_cons_zero, List.set_cons_succ]
        refine AnyMid.takeD (fun _ : World => True) 1 28 (v := .pointer (some ⟨g, k * 2, none⟩)) [] 6 (fun _ h => by cases h) (fun _ _ => trivial) (.inr (fun _ _ => trivial)) (fun _ => SS) rfl rfl (by decide +kernel) (fun _ _ _ h => h) (Or.inl ⟨by rfl, fun w' _ => by go_simp⟩) ?_
        simp only [List.setIfInBounds_toArray, List.set_cons_zero, List.set_cons_succ]
        refine AnyMid.takeD (fun _ : World => True) 2 29 (v := .pointer (some ⟨g, k * 2, none⟩)) [] 6 (fun _ h => by cases h) (fun _ _ => trivial) (.inr (fun _ _ => trivial)) (fun _ => SS) rfl rfl (by decide +kernel) (fun _ _ _ h => h) (Or.inl ⟨by rfl, fun w' _ => by go_simp⟩) ?_
        simp only [List.setIfInBounds_toArray, List.set_cons_zero, List.set_cons_succ]
        refine AnyMid.takeD (fun _ : World => True) 3 30 (v := .pointer (some ⟨g, k * 2, none⟩)) [] 6 (fun _ h => by cases h) (fun _ _ => trivial) (.inr (fun _ _ => trivial)) (fun _ => SS) rfl rfl (by decide +kernel) (fun _ _ _ h => h) (Or.inl ⟨by rfl, fun w' _ => by go_simp⟩) ?_
        simp only [List.setIfInBounds_toArray, List.set_cons_zero, List.set_cons_succ]
        refine AnyMid.takeD (fun _ : World => True) 4 31 (v := .pointer (some ⟨g, k * 2, none⟩)) [] 6 (fun _ h => by cases h) (fun _ _ => trivial) (.inr (fun _ _ => trivial)) (fun _ => SS) rfl rfl (by decide +kernel) (fun _ _ _ h => h) (Or.inl ⟨by rfl, fun w' _ => by go_simp⟩) ?_
        simp only [List.setIfInBounds_toArray, List.set_cons_zero, List.set_cons_succ]
        refine AnyMid.takeD (fun _ : World => True) 5 32 (v := .pointer (some ⟨g, k * 2, none⟩)) [] 6 (fun _ h => by cases h) (fun _ _ => trivial) (.inr (fun _ _ => trivial)) (fun _ => SS) rfl rfl (by decide +kernel) (fun _ _ _ h => h) (Or.inl ⟨by rfl, fun w' _ => by go_simp⟩) ?_
        simp only [List.setIfInBounds_toArray, List.set_cons_zero, List.set_cons_succ]
        refine AnyMid.takeD (fun w' : World => w'.cell? ⟨g, k * 2, none⟩ = some (.slice AI s.In.length cI) ∧ w'.cell? ⟨g, k * 2 + 1, none⟩ = some (.slice AO s.Out.length cO)) 6 33 (v := .slice AI s.In.length cI) [] 6 (fun _ h => by cases h) (fun _ h => h rfl) (.inl (by decide +kernel)) (fun _ => SS) rfl rfl (by decide +kernel) (fun _ _ _ h => h) (Or.inl ⟨by rfl, fun w' hw' => by (obtain ⟨s0, s1⟩ := hw'; go_simp)⟩) ?_
        simp only [List.setIfInBounds_toArray, List.set_cons_zero, List.set_cons_succ]
        refine AnyMid.takeD (fun _ : World => True) 8 35 (v := .pointer (some ⟨g, k * 2, none⟩)) [] 6 (fun _ h => by cases h) (fun _ _ => trivial) (.inr (fun _ _ => trivial)) (fun _ => SS) rfl rfl (by decide +kernel) (fun _ _ _ h => h) (Or.inl ⟨by rfl, fun w' _ => by go_simp⟩) ?_
        simp only [List.setIfInBounds_toArray, List.set_cons_zero, List.set_cons_succ]
        refine AnyMid.takeD (fun _ : World => True) 9 36 (v := .pointer (some ⟨g, k * 2, none⟩)) [] 6 (fun _ h => by cases h) (fun _ _ => trivial) (.inr (fun _ _ => trivial)) (fun _ => SS) rfl rfl (by decide +kernel) (fun _ _ _ h => h) (Or.inl ⟨by rfl, fun w' _ => by go_simp⟩) ?_
        simp only [List.setIfInBounds_toArray, List.set_cons_zero, List.set_cons_succ]
        refine AnyMid.takeD (fun _ : World => True) 10 37 (v := .pointer (some ⟨g, k * 2 + 1, none⟩)) [] 6 (fun _ h => by cases h) (fun _ _ => trivial) (.inr (fun _ _ => trivial)) (fun _ => SS) rfl rfl (by decide +kernel) (fun _ _ _ h => h) (Or.inl ⟨by rfl, fun w' _ => by go_simp⟩) ?_
        simp only [List.setIfInBounds_toArray, List.set_cons_zero, List.set_cons_succ]
        refine AnyMid.takeD (fun _ : World => True) 11 38 (v := .pointer (some ⟨g, k * 2 + 1, none⟩)) [] 6 (fun _ h => by cases h) (fun _ _ => trivial) (.inr (fun _ _ => trivial)) (fun _ => SS) rfl rfl (by decide +kernel) (fun _ _ _ h => h) (Or.inl ⟨by rfl, fun w' _ => by go_simp⟩) ?_
        simp only [List.setIfInBounds_toArray, List.set_cons_zero, List.set_cons_succ]
        refine AnyMid.takeD (fun w' : World => w'.cell? ⟨g, k * 2, none⟩ = some (.slice AI s.In.length cI) ∧ w'.cell? ⟨g, k * 2 + 1, none⟩ = some (.slice AO s.Out.length cO)) 12 39 (v := .slice AO s.Out.length cO) [] 6 (fun _ h => by cases h) (fun _ h => h rfl) (.inl (by decide +kernel)) (fun _ => SS) rfl rfl (by decide +kernel) (fun _ _ _ h => h) (Or.inl ⟨by rfl, fun w' hw' => by (obtain ⟨s0, s1⟩ := hw'; go_simp)⟩) ?_
        simp only [List.setIfInBounds_toArray, List.set_cons_zero, List.set_cons_succ]
        refine AnyMid.only (i := 7) (by decide +kernel) rfl rfl (fun K hK => ?_)
        go_wp2_with fail
        refine (HLI.out _ C0.out.low).mono ?_
        rintro e W1 ⟨⟨AI', cI', rfl, ho⟩, hb⟩
        have C1 := Lib.hid (C0.out.under hb)
        have R1 := Lib.hid (R0.out.under hb)
        have X1 := Lib.hid (X0.out.under hb)
        have O1 := Lib.hid (own_le ho C0.out.size)
        clear ho
        have SS1 : W1.cell? ⟨g, k * 2, none⟩ = some (.slice AI s.In.length cI) ∧ W1.cell? ⟨g, k * 2 + 1, none⟩ = some (.slice AO s.Out.length cO) := ⟨(World.cell?_of_block (a := ⟨g, k * 2, none⟩) (hb.block g hlg)).trans SS.1, (World.cell?_of_block (a := ⟨g, k * 2 + 1, none⟩) (hb.block g hlg)).trans SS.2⟩
        have hlg1 : g < W1.heap.size := X1.out.lt
        clear hb
        refine hK _ _ (fun _ _ => SS1) ?_
        clear hK K
        refine AnyMid.only (i := 13) (by decide +kernel) rfl rfl (fun K hK => ?_)
        go_wp2_with fail
        refine (HLO.out _ C1.out.low).mono ?_
        rintro e W2 ⟨⟨AO', cO', rfl, ho⟩, hb⟩
        have C2 := Lib.hid (C1.out.under hb)
        have R2 := Lib.hid (R1.out.under hb)
        have X2 := Lib.hid (X1.out.under hb)
        have O2 := Lib.hid (own_le ho C1.out.size)
        replace O1 := Lib.hid (own_under O1.out hb)
        have SS2 : W2.cell? ⟨g, k * 2, none⟩ = some (.slice AI s.In.length cI) ∧ W2.cell? ⟨g, k * 2 + 1, none⟩ = some (.slice AO s.Out.length cO) := ⟨(World.cell?_of_block (a := ⟨g, k * 2, none⟩) (hb.block g hlg1)).trans SS1.1, (World.cell?_of_block (a := ⟨g, k * 2 + 1, none⟩) (hb.block g hlg1)).trans SS1.2⟩
        clear ho hb C0 C1 R0 R1 X0 X1 SS SS1 HLI HLO
        refine hK _ _ (fun _ _ => SS2) ?_
        clear hK K
        obtain ⟨c0, c1⟩ := SS2
        have f0 := X2.out.frozen (k * 2)
        have f1 := X2.out.frozen (k * 2 + 1)
        refine AnyMid.only (i := 14) (by decide +kernel) rfl rfl (fun K hK => ?_)
        go_wp2_with fail
        refine hK _ _ (fun _ _ => ⟨c0, c1⟩) ?_
        clear hK K
        refine AnyMid.only (i := 15) (by decide +kernel) rfl rfl (fun K hK => ?_)
        go_wp2_with fail
        refine hK _ _ (fun _ _ => ⟨c0, c1⟩) ?_
        clear hK K
        refine AnyMid.only (i := 16) (by decide +kernel) rfl rfl (fun K hK => ?_)
        go_wp2_with fail
        refine hK _ _ (fun _ _ => ⟨c0, c1⟩) ?_
        clear hK K
        refine AnyMid.only (i := 17) (by decide +kernel) rfl rfl (fun K hK => ?_)
        go_wp2_with fail
        refine hK _ _ (fun _ h => by cases h) ?_
        clear hK K
        refine AnyMid.only (i := 18) (by decide +kernel) rfl rfl (fun K hK => ?_)
        go_wp2_with fail
        refine hK _ _ (fun _ h => by cases h) ?_
        clear hK K
        refine AnyMid.only (i := 19) (by decide +kernel) rfl rfl (fun K hK => ?_)
        go_wp2_with fail
        refine hK _ _ (fun _ h => by cases h) ?_
        clear hK K
        refine AnyMid.only (i := 20) (by decide +kernel) rfl rfl (fun K hK => ?_)
        go_wp2_with fail
        refine hK _ _ (fun _ h => by cases h) ?_
        clear hK K
        refine AnyMid.only (i := 21) (by decide +kernel) rfl rfl (fun K hK => ?_)
        go_wp2_with fail
        refine hK _ _ (fun _ h => by cases h) ?_
        clear hK K
        refine AnyMid.done (by decide +kernel) ?_
        have R3 := Lib.hid (R2.out.put hlt HXS.out X2.out (AI := AI') (cI := cI') (AO := AO') (cO := cO') ⟨O1.out, O2.out⟩)
        have C3 := Lib.hid ((C2.out.put (i := k * 2) X2.out HGB.out (.slice AI' s.In.length cI')).put (i := k * 2 + 1) (X2.out.set_ (k * 2) (.slice AI' s.In.length cI')) HGB.out (.slice AO' s.Out.length cO'))
        clear c0 c1 f0 f1 C2 R2 X2 O1 O2
        go_wp2_with fail
        go_roundw
        case rel => exact ⟨k + 1, _, hlt, by go_num, C3, R3⟩
        case measure => simp [intOf]; omega
      · obtain rfl : k = nL := by omega
        have t0 : decide (k < k) = false := decide_eq_false hlt
        have hS := HC
        clear HLK hlt hk
        have k0 := (show wr.cell? ⟨w.heap.size, 0, none⟩ = some (.slice AE' nE cE') from hS.out.job.cell 0)
        have k1 := (show wr.cell? ⟨w.heap.size, 1, none⟩ = some (.slice AL' k cL') from hS.out.job.cell 1)
        have k2 := (show wr.cell? ⟨w.heap.size, 2, none⟩ = some (.slice AG' nG cG') from hS.out.job.cell 2)
        have k3 := (show wr.cell? ⟨w.heap.size, 3, none⟩ = some (.int .i64 F) from hS.out.job.cell 3)
        have k4 := (show wr.cell? ⟨w.heap.size, 4, none⟩ = some (.int .i64 O) from hS.out.job.cell 4)
        have l0 := (show wr.cell? ⟨w.heap.size + 1, 0, none⟩ = some (.slice none 0 0) from hS.out.res.cell 0)
        have l1 := (show wr.cell? ⟨w.heap.size + 1, 1, none⟩ = some (.slice none 0 0) from hS.out.res.cell 1)
        have l2 := (show wr.cell? ⟨w.heap.size + 1, 2, none⟩ = some (.slice none 0 0) from hS.out.res.cell 2)
        have l3 := (show wr.cell? ⟨w.heap.size + 1, 3, none⟩ = some (.int .i64 0) from hS.out.res.cell 3)
        have l4 := (show wr.cell? ⟨w.heap.size + 1, 4, none⟩ = some (.int .i64 0) from hS.out.res.cell 4)
        have f2 := hS.out.res.frozen 0
        have f3 := hS.out.res.frozen 1
        have f4 := hS.out.res.frozen 2
        have f5 := hS.out.res.frozen 3
        have f6 := hS.out.res.frozen 4
        go_wp2_with fail
        have hbx := (((((hS.out.res.set_ 0 (.slice AE' nE cE')).set_ 1 (.slice AL' k cL')).set_ 2 (.slice AG' nG cG')).set_ 3 (.int .i64 F)).set_ 4 (.int .i64 O))
        have HFAR : ∀ {e size : Nat} {v : Value} {n : Nat} {xs : List Value}, wr.ownsRow (w.heap.size + 1 + 1) e size v n xs → (((((wr.setCell ⟨w.heap.size + 1, 0, none⟩ (.slice AE' nE cE')).setCell ⟨w.heap.size + 1, 1, none⟩ (.slice AL' k cL')).setCell ⟨w.heap.size + 1, 2, none⟩ (.slice AG' nG cG')).setCell ⟨w.heap.size + 1, 3, none⟩ (.int .i64 F)).setCell ⟨w.heap.size + 1, 4, none⟩ (.int .i64 O)).ownsRow (w.heap.size + 1 + 1) e size v n xs := by
          intro e size v n xs h
          exact own_far (own_far (own_far (own_far (own_far h (by simp) _) (by simp) _) (by simp) _) (by simp) _) (by simp) _
        have BF := (((((hS.out.low.setCell (p := ⟨w.heap.size + 1, 0, none⟩) (by simp) (.slice AE' nE cE')).setCell (p := ⟨w.heap.size + 1, 1, none⟩) (by simp) (.slice AL' k cL')).setCell (p := ⟨w.heap.size + 1, 2, none⟩) (by simp) (.slice AG' nG cG')).setCell (p := ⟨w.heap.size + 1, 3, none⟩) (by simp) (.int .i64 F)).setCell (p := ⟨w.heap.size + 1, 4, none⟩) (by simp) (.int .i64 O))
        refine bodyPost_ret (results_cell1 rfl _ _ _ (w.heap.size + 1) (.agg #[.slice AE' nE cE', .slice AL' k cL', .slice AG' nG cG', .int .i64 F, .int .i64 O]) rfl (load_job (t := 36) (by simpa using hbx))) rfl ⟨⟨_, rfl, ?_⟩, BF⟩
        have hlen := HR.out.len.1
        refine HFIN.out _ AE' cE' AL' cL' AG' cG' ms HR.out.said (HFAR hS.out.ends) (HFAR HR.out.row) (fun x hx => ?_) (HFAR hS.out.grades)
        obtain ⟨i, hi, rfl⟩ := List.mem_iff_getElem.1 hx
        have hd := HR.out.done i _ (List.getElem?_eq_getElem hi) (by omega)
        exact ⟨HFAR hd.1, HFAR hd.2⟩

end Go.Proofs.Ytannipfohicpmaa
