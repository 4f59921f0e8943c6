/- The law CasingMore, walked. -/
import Derived.Test.YtannipfohicpmaaMoreOwn
import Derived.Test.YtannipfohicpmaaOpen
import Derived.Test.YtannipfohicpmaaMod
import Derived.Test.YtannipfohicpmaaAwake
import Derived.Test.YtannipfohicpmaaMade
namespace Go.Proofs.Ytannipfohicpmaa
open Go.ChangeShapes Go.WideShapes Go.RowKit Go.Shelf Go.Deep Mpl

def keyMore (i : Nat) (d1 d3 a4 a5 s6 s7 : Bool) : Bool :=
  (i == 1 && !d1) || (i == 3 && (d1 && !d3)) || (i == 4 && !a4) || (i == 5 && !a5) || (i == 6 && (d1 && a4 && !s6)) || (i == 7 && (d3 && a5 && !s7))
theorem at_actM {P : Program} {md : Region.Mode} {ops : Array Oper} {Q : Exit → Act → World → Prop} {S : World → Prop} {z m : Nat} {b : Array Bool} {a : Act} {W : World} (H : ∀ a', a = a' → AnyBut P md ops Q S z m b a' W) : AnyBut P md ops Q S z m b a W := H a rfl

theorem AnyBut.onlyW {P : Program} {md : Region.Mode} {ops : Array Oper} {Q : Exit → Act → World → Prop} {S : World → Prop} {z i : Nat} {o : Oper} {m : Nat} {b : Array Bool} {a : Act} {w : World} (hr : Region.ready md ops b = [i]) (ho : ops[i]? = some o) (hg : Region.wanted o (yielded ops a.tmps) = true)
    (h : ∀ K : Act → World → Prop, (∀ a' w', (i ≠ z → S w') → AnyBut P md ops Q S z m (b.setIfInBounds i true) a' w' → K a' w') → o.wp P a w K Q) : AnyBut P md ops Q S z (m + 1) b a w :=
  ⟨fun h0 => (by rw [hr] at h0; cases h0), fun j hj => by
    rw [hr, List.mem_singleton] at hj
    subst hj
    unfold wpOp
    simp only [ho]
    rw [if_pos hg]
    exact .inl (h _ fun a' w' h1 h2 => ⟨h1, h2⟩)⟩

set_option maxHeartbeats 8000000 in
set_option maxRecDepth 100000 in
theorem walk_CasingMore (x : Sheet) (v0 : Value) (y : Sheet) (v1 : Value) (f o : Int) (w : World) (hv : SheetV w w.heap.size v0 x) (hin : SheetIn x) (hv1 : SheetV w w.heap.size v1 y) (hin1 : SheetIn y) (hf : inI64 f) (ho : inI64 o) :
    Calls Try.prog 10 #[v0, v1, .int .i64 f, .int .i64 o] w fun e w' => e = .returned (.bool true) ∧ Below w.heap.size w w' := by
  have HJ := Lib.hid (fun W (hW : Below w.heap.size w W) => kit_JobOwn x v0 W (hv.up hW hW.size) hin)
  have HO := Lib.hid (fun W (hW : Below w.heap.size w W) => kit_JobOwn y v1 W (hv1.up hW hW.size) hin1)
  obtain ⟨AE, cE, AL, cL, AG, cG, rfl, _, _, _⟩ := hv
  obtain ⟨AE', cE', AL', cL', AG', cG', rfl, _, _, _⟩ := hv1
  have HF := Lib.hid hf
  have HOV := Lib.hid ho
  clear hin hin1 hf ho
  generalize x.Ends.length = nE at *
  generalize x.Loads.length = nL at *
  generalize x.Grades.length = nG at *
  generalize y.Ends.length = nE' at *
  generalize y.Loads.length = nL' at *
  generalize y.Grades.length = nG' at *
  generalize x.Factor = fx at *
  generalize x.Over = ox at *
  generalize y.Factor = fy at *
  generalize y.Over = oy at *
  obtain ⟨w0, hw0⟩ : ∃ w0, (w.alloc (.cells #[.slice AE nE cE, .slice AL nL cL, .slice AG nG cG, .int .i64 fx, .int .i64 ox] 48)).alloc (.cells #[.slice AE' nE' cE', .slice AL' nL' cL', .slice AG' nG' cG', .int .i64 fy, .int .i64 oy] 48) = w0 := ⟨_, rfl⟩
  have HB0 := Lib.hid (show Below w.heap.size w w0 by rw [← hw0]; exact (by repeat (first | exact Below.refl _ _ | assumption | refine Below.setCell ?_ (by first | (simp; done) | (simp; omega)) _ | refine belowDrewN ?_ _ | refine Below.drew ?_ | refine Below.alloc ?_ (by first | (simp; done) | (simp; omega)) _)))
  have B0 := Lib.hid (show Box w0 w.heap.size 48 #[.slice AE nE cE, .slice AL nL cL, .slice AG nG cG, .int .i64 fx, .int .i64 ox] by rw [← hw0]; exact (Box.new w _ _ rfl).alloc _)
  have B1 := Lib.hid (show Box w0 (w.heap.size + 1) 48 #[.slice AE' nE' cE', .slice AL' nL' cL', .slice AG' nG' cG', .int .i64 fy, .int .i64 oy] by rw [← hw0]; exact Box.new _ _ _ (by simp))
  have HW0 := Lib.hid hw0
  clear hw0
  have HJ' := Lib.hid (fun W (h : Below w0.heap.size w0 W) => HJ.out W (HB0.out.trans (h.mono HB0.out.size)))
  have HO' := Lib.hid (fun W (h : Below w0.heap.size w0 W) => HO.out W (HB0.out.trans (h.mono HB0.out.size)))
  clear HJ HO
  go_enter Try.func10, Try.ntmps10
  go_upto_region 1 with fail
  rw [HW0.out]
  go_cut [9, 10] (fun s9 s10 wx => ∃ (g4 g5 : Nat) (c4 c5 : Array Value) (j k : Job), s9 = .pointer (some ⟨g4, 0, none⟩) ∧ s10 = .pointer (some ⟨g5, 0, none⟩) ∧ Hid (JobIs wx w0.heap.size g4 c4 j) ∧ Hid (Made j) ∧ Hid (JobIs wx w0.heap.size g5 c5 k) ∧ Hid (Made k) ∧ Hid (Below w0.heap.size w0 wx))
  case first =>
    have DS0 : Below w0.heap.size w0 w0.drew := (Below.refl _ _).drew
    refine AnyBut.begin (S := fun w' : World => Below w0.heap.size w0 w') (z := 100) mixed ?_
    refine AnyBut.takeD 0 19 (v := .agg #[.slice AE nE cE, .slice AL nL cL, .slice AG nG cG, .int .i64 fx, .int .i64 ox]) rfl rfl (by decide +kernel) (fun _ _ _ h => h) DS0 (Or.inl ⟨by rfl, fun w' hw' => by (obtain ⟨s0, s1, s2, s3, s4⟩ := load_sheet (B0.out.under hw'); go_simp)⟩) ?_
    simp only [List.setIfInBounds_toArray, List.set_cons_zero, List.set_cons_succ]
    refine AnyBut.takeD 2 21 (v := .agg #[.slice AE' nE' cE', .slice AL' nL' cL', .slice AG' nG' cG', .int .i64 fy, .int .i64 oy]) rfl rfl (by decide +kernel) (fun _ _ _ h => h) DS0 (Or.inl ⟨by rfl, fun w' hw' => by (obtain ⟨s0, s1, s2, s3, s4⟩ := load_sheet (B1.out.under hw'); go_simp)⟩) ?_
    simp only [List.setIfInBounds_toArray, List.set_cons_zero, List.set_cons_succ]
    refine at_actM fun a' ha' => ?_
    subst ha'
    refine Inv2.any_from (F := fun b0 a0 b a W => ∃ (d1 d3 a4 a5 s6 s7 : Bool) (v1 v3 p4 p5 : Value), b = ((((((b0.setIfInBounds 1 d1).setIfInBounds 3 d3).setIfInBounds 4 a4).setIfInBounds 5 a5).setIfInBounds 6 s6).setIfInBounds 7 s7) ∧ a = { tmps := ((((a0.tmps.setIfInBounds 20 v1).setIfInBounds 22 v3).setIfInBounds 9 p4).setIfInBounds 10 p5), defers := a0.defers }
      ∧ TwoJ w0 d1 d3 a4 a5 s6 s7 v1 v3 p4 p5 W ∧ (s6 = true → a4 = true ∧ d1 = true) ∧ (s7 = true → a5 = true ∧ d3 = true)) (by decide +kernel) ?h0 ?hS ?hs ?hd
    case h0 => exact ⟨false, false, false, false, false, false, undef, undef, undef, undef, by decide +kernel, by simp, TwoJ.none.under (Below.refl _ _).drew, fun e => (by cases e), fun e => (by cases e)⟩
    case hS =>
      rintro b a W ⟨d1, d3, a4, a5, s6, s7, v1, v3, p4, p5, _, _, ht, hc1, hc2⟩
      exact ht.low
    case hs =>
      rintro b a W ⟨d1, d3, a4, a5, s6, s7, v1, v3, p4, p5, rfl, rfl, ht, hc1, hc2⟩ i hi
      have kb : keyMore i d1 d3 a4 a5 s6 s7 = true := by
        clear ht hc1 hc2
        revert i
        revert d1 d3 a4 a5 s6 s7
        decide +kernel
      have key : (i = 1 ∧ d1 = false) ∨ (i = 3 ∧ d1 = true ∧ d3 = false) ∨ (i = 4 ∧ a4 = false) ∨ (i = 5 ∧ a5 = false) ∨ (i = 6 ∧ d1 = true ∧ a4 = true ∧ s6 = false) ∨ (i = 7 ∧ d3 = true ∧ a5 = true ∧ s7 = false) := by simpa [keyMore, and_assoc, or_assoc] using kb
      clear kb hi
      rcases key with ⟨rfl, hk⟩ | ⟨rfl, hk0, hk⟩ | ⟨rfl, hk⟩ | ⟨rfl, hk⟩ | ⟨rfl, hk0, hk1, hk⟩ | ⟨rfl, hk0, hk1, hk⟩
      · subst hk
        have hs6 : s6 = false := by cases s6; rfl; exact absurd (hc1 rfl).2 (by decide)
        subst hs6
        refine ⟨_, rfl, rfl, fun K hK => ?_⟩
        go_simp
        refine (HJ'.out _ ht.low).mono ?_
        rintro e W' ⟨⟨v, j, rfl, ho, hm⟩, hb⟩
        refine hK _ _ ⟨true, d3, a4, a5, false, s7, v, v3, p4, p5, (by clear hK K ht hc1 hc2; revert d3 a4 a5 s7; decide +kernel), by simp, (ht.under hb).call1 (ho.le ht.low.size) hm, fun e => (by cases e), hc2⟩
      · subst hk hk0
        have hs7 : s7 = false := by cases s7; rfl; exact absurd (hc2 rfl).2 (by decide)
        subst hs7
        refine ⟨_, rfl, rfl, fun K hK => ?_⟩
        go_simp
        refine (HO'.out _ ht.low).mono ?_
        rintro e W' ⟨⟨v, j, rfl, ho, hm⟩, hb⟩
        refine hK _ _ ⟨true, true, a4, a5, s6, false, v1, v, p4, p5, (by clear hK K ht hc1 hc2; revert a4 a5 s6; decide +kernel), by simp, (ht.under hb).call3 (ho.le ht.low.size) hm, hc1, fun e => (by cases e)⟩
      · subst hk
        have hs6 : s6 = false := by cases s6; rfl; exact absurd (hc1 rfl).1 (by decide)
        subst hs6
        refine ⟨_, rfl, rfl, fun K hK => ?_⟩
        go_simp
        refine hK _ _ ⟨d1, d3, true, a5, false, s7, v1, v3, .pointer (some ⟨W.heap.size, 0, none⟩), p5, (by clear hK K ht hc1 hc2; revert d1 d3 a5 s7; decide +kernel), by simp, ht.alloc4 _ _ _ _ _, fun e => (by cases e), hc2⟩
      · subst hk
        have hs7 : s7 = false := by cases s7; rfl; exact absurd (hc2 rfl).1 (by decide)
        subst hs7
        refine ⟨_, rfl, rfl, fun K hK => ?_⟩
        go_simp
        refine hK _ _ ⟨d1, d3, a4, true, s6, false, v1, v3, p4, .pointer (some ⟨W.heap.size, 0, none⟩), (by clear hK K ht hc1 hc2; revert d1 d3 a4 s6; decide +kernel), by simp, ht.alloc5 _ _ _ _ _, hc1, fun e => (by cases e)⟩
      · subst hk hk0 hk1
        obtain ⟨j, hjo, hjm⟩ := ht.r1 rfl
        obtain ⟨aE, eE, aL, eL, aG, eG, rfl⟩ := hjo.form
        obtain ⟨g, x0, x1, x2, x3, x4, rfl, hg, hx, _⟩ := ht.l4 rfl
        obtain ⟨z0, z1, z2, z3, z4⟩ := job_cells hx
        obtain ⟨f0, f1, f2, f3, f4⟩ := job_free hx
        have t1 := Lib.hid (ht.put4 hx hg)
        clear hjo hjm
        generalize j.Ends.length = nE at *
        generalize j.Loads.length = nL at *
        generalize j.Grades.length = nG at *
        refine ⟨_, rfl, rfl, fun K hK => ?_⟩
        go_simp
        refine hK _ _ ⟨true, d3, true, a5, true, s7, _, v3, .pointer (some ⟨g, 0, none⟩), p5, (by clear hK K ht hc1 hc2 t1; revert d3 a5 s7; decide +kernel), by simp, t1.out, fun _ => ⟨rfl, rfl⟩, hc2⟩
      · subst hk hk0 hk1
        obtain ⟨j, hjo, hjm⟩ := ht.r3 rfl
        obtain ⟨aE, eE, aL, eL, aG, eG, rfl⟩ := hjo.form
        obtain ⟨g, x0, x1, x2, x3, x4, rfl, hg, hx, _⟩ := ht.l5 rfl
        obtain ⟨z0, z1, z2, z3, z4⟩ := job_cells hx
        obtain ⟨f0, f1, f2, f3, f4⟩ := job_free hx
        have t1 := Lib.hid (ht.put5 hx hg)
        clear hjo hjm
        generalize j.Ends.length = nE at *
        generalize j.Loads.length = nL at *
        generalize j.Grades.length = nG at *
        refine ⟨_, rfl, rfl, fun K hK => ?_⟩
        go_simp
        refine hK _ _ ⟨d1, true, a4, true, s6, true, v1, _, p4, .pointer (some ⟨g, 0, none⟩), (by clear hK K ht hc1 hc2 t1; revert d1 a4 s6; decide +kernel), by simp, t1.out, hc1, fun _ => ⟨rfl, rfl⟩⟩
    case hd =>
      rintro b a W ⟨d1, d3, a4, a5, s6, s7, v1, v3, p4, p5, rfl, rfl, ht, hc1, hc2⟩ hr
      have key : s6 = true ∧ s7 = true := by
        clear ht hc1 hc2
        revert d1 d3 a4 a5 s6 s7
        decide +kernel
      obtain ⟨rfl, rfl⟩ := key
      obtain ⟨rfl, rfl⟩ := hc1 rfl
      obtain ⟨rfl, rfl⟩ := hc2 rfl
      obtain ⟨j, hjo, hjm⟩ := ht.r1 rfl
      obtain ⟨k, hko, hkm⟩ := ht.r3 rfl
      obtain ⟨g4, x0, x1, x2, x3, x4, rfl, hg4, hx4, e4⟩ := ht.l4 rfl
      obtain ⟨g5, y0, y1, y2, y3, y4, rfl, hg5, hx5, e5⟩ := ht.l5 rfl
      obtain rfl := e4 rfl
      obtain rfl := e5 rfl
      clear hr e4 e5
      simp
      go_wp2_with fail
      go_meet
      exact ⟨_, _, _, _, j, k, rfl, rfl, ⟨hx4, hjo⟩, hjm, ⟨hx5, hko⟩, hkm, ht.low⟩
  case rest =>
    obtain ⟨g4, g5, c4, c5, j, k, rfl, rfl, IJ, HMJ, IK, HMK, BL⟩ := hcut
    have S0 : Hid (MoreS w0 g4 g5 c4 c5 j k wc) := ⟨IJ.out, IK.out, BL.out⟩
    obtain ⟨aE, eE, aL, eL, aG, eG, hform⟩ := IJ.out.own.form
    simp only [Value.agg.injEq] at hform
    subst hform
    obtain ⟨bE, fE, bL, fL, bG, fG, hform⟩ := IK.out.own.form
    simp only [Value.agg.injEq] at hform
    subst hform
    clear IJ IK BL B0 B1 HJ' HO' HW0
    have n1 := HMJ.out.ends
    have n2 := HMJ.out.loads
    have n3 := HMJ.out.grades
    have m1 := HMK.out.ends
    have m2 := HMK.out.loads
    have m3 := HMK.out.grades
    have f1 := (checkJob_good HMJ.out.ok).factor
    have f2 := HMJ.out.factor
    have o1 := (checkJob_good HMJ.out.ok).over
    have o2 := HMJ.out.over
    have HCH := Lib.hid (fun (J : Job) v W (hv : JobV W W.heap.size v J) => (casing_Choose J v W hv).mono fun e w' h => chosen_any h)
    have HCP := Lib.hid (fun v W (hv : JobV W W.heap.size v j) => ref05_Copy j v W hv (by omega) (by omega) (by omega) (made_lens HMJ.out))
    have HCO := Lib.hid (fun (J : Job) (l : List Int) v A c W (hv : JobV W W.heap.size v J) (hl : Ints W W.heap.size A l) (hn : l.length ≤ 1000) => casing_Cost J l v A c W hv hl (by omega))
    have HMO := Lib.hid (fun W => kit_Mod64 f 1000 W HF.out (by omega) (by omega))
    have HMO2 := Lib.hid (fun W => kit_Mod64 o 1073741824 W HOV.out (by omega) (by omega))
    have HHS := Lib.hid (fun b (h : chooseOf (hardOf j k f o) = some b) => hard_said HMJ.out f o h)
    have HES := Lib.hid (fun a (h : chooseOf j = some a) => easy_said HMJ.out HMK.out h)
    have HFEW := Lib.hid (fun (J : Job) l (h : chooseOf J = some l) => chosen_few h)
    have HPG := Lib.hid ((checkJob_good HMK.out.ok).gpos)
    have p1 : 0 ≤ f % 1000 ∧ f % 1000 ≤ 999 := by omega
    have p2 : 0 ≤ o % 1073741824 ∧ o % 1073741824 ≤ 1073741823 := by omega
    obtain ⟨p10, p11⟩ := p1
    obtain ⟨p20, p21⟩ := p2
    obtain ⟨f1, _⟩ := f1
    obtain ⟨o1, _⟩ := o1
    clear HF HOV HMJ HMK
    generalize hfm : f % 1000 = fm at *
    generalize hom : o % 1073741824 = om at *
    have HFM := Lib.hid hfm
    have HOM := Lib.hid hom
    clear hfm hom
    obtain ⟨i2, hi2, hx0, hx1, hx2⟩ := info_parts info_Stress
    obtain ⟨i1, hi1, hy0, hy1, hy2⟩ := info_parts info_Grade
    generalize hnE : j.Ends.length = nE at *
    generalize hnL : j.Loads.length = nL at *
    generalize hnG : j.Grades.length = nG at *
    generalize hmE : k.Ends.length = mE at *
    generalize hmL : k.Loads.length = mL at *
    generalize hmG : k.Grades.length = mG at *
    generalize hjF : j.Factor = jF at *
    generalize hjO : j.Over = jO at *
    generalize hkF : k.Factor = kF at *
    generalize hkO : k.Over = kO at *
    have HN := Lib.hid (And.intro hnE (And.intro hnL (And.intro hnG (And.intro hmE (And.intro hmL (And.intro hmG (And.intro hjF (And.intro hjO (And.intro hkF hkO)))))))))
    clear hnE hnL hnG hmE hmL hmG hjF hjO hkF hkO
    -- region 2: Choose(j)
    obtain ⟨q0, q1, q2, q3, q4⟩ := job_cells S0.out.ij.box
    go_wp2_with fail
    refine (HCH.out j _ _ S0.out.ij.own.job).mono ?_
    rintro e w1 ⟨⟨Aa, na, ca, isA, rfl, hA⟩, hb1⟩
    have S1 := Lib.hid (S0.out.under hb1)
    have HA1 := Lib.hid hA
    clear hA hb1 S0 q0 q1 q2 q3 q4
    -- region 3: Copy(j)
    obtain ⟨q0, q1, q2, q3, q4⟩ := job_cells S1.out.ij.box
    go_wp2_with fail
    refine (HCP.out _ _ S1.out.ij.own.job).mono ?_
    rintro e w2 ⟨⟨v, rfl, hown⟩, hb2⟩
    have BH := Lib.hid hb2
    obtain ⟨hE, dE, hL, dL, hG, dG, rfl⟩ := hown.form
    have OH := Lib.hid hown
    clear hown hb2 q0 q1 q2 q3 q4
    rw [HN.out.1, HN.out.2.1, HN.out.2.2.1, HN.out.2.2.2.2.2.2.1, HN.out.2.2.2.2.2.2.2.1] at OH ⊢
    obtain ⟨w3, hw3⟩ : ∃ w3, w2.alloc (.cells #[.slice hE nE dE, .slice hL nL dL, .slice hG nG dG, .int .i64 jF, .int .i64 jO] 36) = w3 := ⟨_, rfl⟩
    have hb3 : Below w2.heap.size w2 w3 := by rw [← hw3]; exact (Below.refl _ _).alloc (Nat.le_refl _) _
    have BH3 := Lib.hid (BH.out.trans (hb3.mono BH.out.size))
    have XH3 := Lib.hid (show Box w3 w2.heap.size 36 #[.slice hE nE dE, .slice hL nL dL, .slice hG nG dG, .int .i64 jF, .int .i64 jO] by rw [← hw3]; exact Box.new _ _ _ rfl)
    have OH3 := Lib.hid (OH.out.under hb3)
    have HW3 := Lib.hid hw3
    clear hw3 hb3
    go_upto_region 4 with fail
    rw [HW3.out]
    -- region 4: the loads of the other one
    have hs1 := S1.out.low.size
    have hs2 : w1.heap.size ≤ w2.heap.size := BH.out.size
    have hs3 := BH3.out.size
    have S3 := Lib.hid (S1.out.under BH3.out)
    obtain ⟨ls, lk, ol, src, one, -, -, hap⟩ := more_loads OH3.out S3.out.ik.own hs1 hs3
    have OL := Lib.hid ol
    have SRC := Lib.hid src
    have ONE := Lib.hid one
    have HAP := Lib.hid hap
    clear HW3 OH BH ol src one hap
    have q1 := (show w3.cell? ⟨w2.heap.size, 1, none⟩ = some (.slice hL nL dL) from XH3.out.cell 1)
    have r1 := (show w3.cell? ⟨g5, 1, none⟩ = some (.slice bL mL fL) from S3.out.ik.box.cell 1)
    go_wp2_with (at_builtin; refine wpList_append_list _ rfl _ _ 33 rfl w1.heap.size 26 i2 (.agg #[.slice none 0 0, .slice none 0 0]) 2 48 Try.underlying33 hi2 hx0 hx1 hx2 rfl (by decide) (.slice hL nL dL) nL (ls.flatMap loadC) rfl OL.out bL mL fL (lk.flatMap loadC) rfl SRC.out ONE.out ?c1 ?c2 ?c3 ?_)
    case c1 => unfold maxLen; omega
    case c2 => omega
    case c3 => exact hs3
    intro v' w4 ho hg
    obtain ⟨AL4, cL4, rfl, oh4, hbx, hb4⟩ := HAP.out w4 v' ho hg
    have X4 := Lib.hid (hbx _ _ XH3.out)
    have BH4 := Lib.hid (BH3.out.trans (hb4.mono (Nat.le_refl _)))
    have OH4 := Lib.hid oh4
    clear ho hg oh4 hbx hb4 q1 r1 HAP OL SRC ONE XH3 BH3 OH3 S3 hs3
    have q1 := (show w4.cell? ⟨w2.heap.size, 1, none⟩ = some (.slice hL nL dL) from X4.out.cell 1)
    have r1 := X4.out.frozen 1
    go_upto_region 5 with fail
    have X5 := Lib.hid (show Box (w4.setCell ⟨w2.heap.size, 1, none⟩ (.slice AL4 (nL + mL) cL4)).drew w2.heap.size 36 #[.slice hE nE dE, .slice AL4 (nL + mL) cL4, .slice hG nG dG, .int .i64 jF, .int .i64 jO] by simpa using (X4.out.set_ 1 (.slice AL4 (nL + mL) cL4)).drew)
    have OH5 := Lib.hid ((OH4.out.put (i := 1) X4.out (.slice AL4 (nL + mL) cL4)).under (Below.refl _ _).drew)
    have BH5 := Lib.hid ((BH4.out.setCell (p := ⟨w2.heap.size, 1, none⟩) hs2 (.slice AL4 (nL + mL) cL4)).drew)
    clear X4 OH4 BH4 q1 r1
    go_cut [13] (fun s13 wx => s13 = .pointer (some ⟨w2.heap.size, 0, none⟩) ∧ Hid (Below w1.heap.size w1 wx) ∧ Hid (Box wx w2.heap.size 36 #[.slice hE nE dE, .slice AL4 (nL + mL) cL4, .slice hG nG dG, .int .i64 (jF + fm), .int .i64 jO]) ∧ Hid (JobOwn wx w0.heap.size (.agg #[.slice hE nE dE, .slice AL4 (nL + mL) cL4, .slice hG nG dG, .int .i64 (jF + fm), .int .i64 jO]) ⟨j.Ends, j.Loads ++ k.Loads, j.Grades, jF + fm, jO⟩))
    case first =>
      have tmin : jF + fm < 3000 := by omega
      have twr : IntKind.i64.wrap (jF + fm) = jF + fm := IntWalk.i64_in _ (by omega)
      generalize hw5 : (w4.setCell ⟨w2.heap.size, 1, none⟩ (.slice AL4 (nL + mL) cL4)).drew = w5 at *
      refine AnyBut.begin (S := fun w' : World => w' = w5) (z := 7) mixed ?_
      rw [hw5]
      clear hw5
      have q3 := (show w5.cell? ⟨w2.heap.size, 3, none⟩ = some (.int .i64 jF) from X5.out.cell 3)
      have r3 := X5.out.frozen 3
      refine AnyBut.takeD 0 36 (v := .pointer (some ⟨w2.heap.size, 3, none⟩)) rfl rfl (by decide +kernel) (fun _ _ _ h => h) rfl (Or.inl ⟨by rfl, fun w' hw' => by (subst hw'; go_simp)⟩) ?_
      simp only [List.setIfInBounds_toArray, List.set_cons_zero, List.set_cons_succ]
      refine AnyBut.takeD 1 37 (v := .int .i64 jF) rfl rfl (by decide +kernel) (fun _ _ _ h => h) rfl (Or.inl ⟨by rfl, fun w' hw' => by (subst hw'; go_simp)⟩) ?_
      simp only [List.setIfInBounds_toArray, List.set_cons_zero, List.set_cons_succ]
      refine AnyBut.takeD 2 38 (v := .int .i64 f) rfl rfl (by decide +kernel) (fun _ _ _ h => h) rfl (Or.inl ⟨by rfl, fun w' hw' => by (subst hw'; go_simp)⟩) ?_
      simp only [List.setIfInBounds_toArray, List.set_cons_zero, List.set_cons_succ]
      refine AnyBut.only (i := 3) (by decide +kernel) rfl rfl (fun K hK => ?_)
      go_simp
      refine (HMO.out _).mono ?_
      rintro e w' ⟨rfl, rfl⟩
      refine hK _ _ (fun _ => rfl) ?_
      clear hK K
      refine AnyBut.takeD 4 40 (v := .int .i64 (jF + fm)) rfl rfl (by decide +kernel) (fun _ _ _ h => h) rfl (Or.inl ⟨by rfl, fun w' hw' => by (subst hw'; go_simp)⟩) ?_
      simp only [List.setIfInBounds_toArray, List.set_cons_zero, List.set_cons_succ]
      refine AnyBut.takeD 5 41 (v := .int .i64 (jF + fm)) rfl rfl (by decide +kernel) (fun _ _ _ h => h) rfl (Or.inl ⟨by rfl, fun w' hw' => by (subst hw'; go_simp)⟩) ?_
      simp only [List.setIfInBounds_toArray, List.set_cons_zero, List.set_cons_succ]
      refine AnyBut.takeD 6 42 (v := .pointer (some ⟨w2.heap.size, 3, none⟩)) rfl rfl (by decide +kernel) (fun _ _ _ h => h) rfl (Or.inl ⟨by rfl, fun w' hw' => by (subst hw'; go_simp)⟩) ?_
      simp only [List.setIfInBounds_toArray, List.set_cons_zero, List.set_cons_succ]
      refine AnyBut.only (i := 7) (by decide +kernel) rfl rfl (fun K hK => ?_)
      go_simp
      refine hK _ _ (fun h => absurd rfl h) ?_
      refine AnyBut.done (by decide +kernel) ?_
      go_wp2_with fail
      go_meet
      exact ⟨rfl, BH5.out.setCell (p := ⟨w2.heap.size, 3, none⟩) hs2 _, by (unfold Hid; simpa using X5.out.set_ 3 (.int .i64 (jF + fm))), (OH5.out.put X5.out _).nums.1⟩
    case rest =>
      obtain ⟨rfl, BH6, X6', OH6'⟩ := hcut
      clear BH5 X5 OH5
      go_upto_region 6 with fail
      have X6 := Lib.hid X6'.out.drew
      have OH6 := Lib.hid (OH6'.out.under (Below.refl _ _).drew)
      have BH6d := Lib.hid BH6.out.drew
      clear X6' OH6' BH6
      go_cut [13] (fun s13 wx => s13 = .pointer (some ⟨w2.heap.size, 0, none⟩) ∧ Hid (Below w1.heap.size w1 wx) ∧ Hid (Box wx w2.heap.size 36 #[.slice hE nE dE, .slice AL4 (nL + mL) cL4, .slice hG nG dG, .int .i64 (jF + fm), .int .i64 (jO + om)]) ∧ Hid (JobOwn wx w0.heap.size (.agg #[.slice hE nE dE, .slice AL4 (nL + mL) cL4, .slice hG nG dG, .int .i64 (jF + fm), .int .i64 (jO + om)]) ⟨j.Ends, j.Loads ++ k.Loads, j.Grades, jF + fm, jO + om⟩))
      case first =>
        have twr : IntKind.i64.wrap (jO + om) = jO + om := IntWalk.i64_in _ (by omega)
        generalize hw5 : wc.drew = w5 at *
        refine AnyBut.begin (S := fun w' : World => w' = w5) (z := 6) mixed ?_
        rw [hw5]
        clear hw5
        have q3 := (show w5.cell? ⟨w2.heap.size, 4, none⟩ = some (.int .i64 jO) from X6.out.cell 4)
        have r3 := X6.out.frozen 4
        refine AnyBut.takeD 0 43 (v := .pointer (some ⟨w2.heap.size, 4, none⟩)) rfl rfl (by decide +kernel) (fun _ _ _ h => h) rfl (Or.inl ⟨by rfl, fun w' hw' => by (subst hw'; go_simp)⟩) ?_
        simp only [List.setIfInBounds_toArray, List.set_cons_zero, List.set_cons_succ]
        refine AnyBut.takeD 1 44 (v := .int .i64 jO) rfl rfl (by decide +kernel) (fun _ _ _ h => h) rfl (Or.inl ⟨by rfl, fun w' hw' => by (subst hw'; go_simp)⟩) ?_
        simp only [List.setIfInBounds_toArray, List.set_cons_zero, List.set_cons_succ]
        refine AnyBut.takeD 2 45 (v := .int .i64 o) rfl rfl (by decide +kernel) (fun _ _ _ h => h) rfl (Or.inl ⟨by rfl, fun w' hw' => by (subst hw'; go_simp)⟩) ?_
        simp only [List.setIfInBounds_toArray, List.set_cons_zero, List.set_cons_succ]
        refine AnyBut.only (i := 3) (by decide +kernel) rfl rfl (fun K hK => ?_)
        go_simp
        refine (HMO2.out _).mono ?_
        rintro e w' ⟨rfl, rfl⟩
        refine hK _ _ (fun _ => rfl) ?_
        clear hK K
        refine AnyBut.takeD 4 47 (v := .int .i64 (jO + om)) rfl rfl (by decide +kernel) (fun _ _ _ h => h) rfl (Or.inl ⟨by rfl, fun w' hw' => by (subst hw'; go_simp)⟩) ?_
        simp only [List.setIfInBounds_toArray, List.set_cons_zero, List.set_cons_succ]
        refine AnyBut.takeD 5 48 (v := .pointer (some ⟨w2.heap.size, 4, none⟩)) rfl rfl (by decide +kernel) (fun _ _ _ h => h) rfl (Or.inl ⟨by rfl, fun w' hw' => by (subst hw'; go_simp)⟩) ?_
        simp only [List.setIfInBounds_toArray, List.set_cons_zero, List.set_cons_succ]
        refine AnyBut.only (i := 6) (by decide +kernel) rfl rfl (fun K hK => ?_)
        go_simp
        refine hK _ _ (fun h => absurd rfl h) ?_
        refine AnyBut.done (by decide +kernel) ?_
        go_wp2_with fail
        go_meet
        exact ⟨rfl, BH6d.out.setCell (p := ⟨w2.heap.size, 4, none⟩) hs2 _, by (unfold Hid; simpa using X6.out.set_ 4 (.int .i64 (jO + om))), (OH6.out.put X6.out _).nums.1⟩
      case rest =>
        obtain ⟨rfl, BH7, X7, OH7⟩ := hcut
        clear BH6d X6 OH6 HMO HMO2
        obtain ⟨w7, hw7⟩ : ∃ w7, w7 = wc := ⟨_, rfl⟩
        subst hw7
        have HEQ : Hid ((⟨j.Ends, j.Loads ++ k.Loads, j.Grades, jF + fm, jO + om⟩ : Job) = hardOf j k f o) := by
          unfold Hid hardOf
          rw [HFM.out, HOM.out, HN.out.2.2.2.2.2.2.1, HN.out.2.2.2.2.2.2.2.1]
        rw [HEQ.out] at OH7
        generalize hardOf j k f o = hd at *
        have hs7 : w2.heap.size < w7.heap.size := X7.out.lt
        have S7 := Lib.hid (S1.out.under BH7.out)
        have HA7 : Hid ((isA = false ∧ chooseOf j = none) ∨ ∃ l, isA = true ∧ chooseOf j = some l ∧ na = l.length ∧ Ints w7 w7.heap.size Aa l) := HA1.out.imp id (fun ⟨l, h1, h2, h3, h4⟩ => ⟨l, h1, h2, h3, h4.up BH7.out BH7.out.size⟩)
        clear HA1 S1 HEQ
        -- region 7: Choose(hard)
        obtain ⟨q0, q1, q2, q3, q4⟩ := job_cells X7.out
        go_wp2_with fail
        refine (HCH.out hd _ _ OH7.out.job).mono ?_
        rintro e w8 ⟨⟨Ab, nb, cb, isB, rfl, hB⟩, hb8⟩
        have HB8 := Lib.hid hB
        have S8 := Lib.hid (S7.out.under hb8)
        have X8 := Lib.hid (X7.out.under hb8)
        have OH8 := Lib.hid (OH7.out.under hb8)
        have BH8 := Lib.hid (BH7.out.trans (hb8.mono BH7.out.size))
        have HA8 : Hid ((isA = false ∧ chooseOf j = none) ∨ ∃ l, isA = true ∧ chooseOf j = some l ∧ na = l.length ∧ Ints w8 w8.heap.size Aa l) := HA7.out.imp id (fun ⟨l, h1, h2, h3, h4⟩ => ⟨l, h1, h2, h3, h4.up hb8 hb8.size⟩)
        clear hB hb8 q0 q1 q2 q3 q4 S7 X7 OH7 BH7 HA7 hs7
        -- region 8: the harder job is no cheaper
        go_upto_region 8 with fail
        go_cut [67] (fun s67 wx => s67 = .bool false ∧ Hid (Below w8.heap.size w8 wx))
        case first =>
          cases isB with
          | false =>
            clear HB8 HA8 S8 X8 OH8 BH8
            go_quiet (fail)
            go_wp2_with fail
            go_meet
            exact ⟨rfl, belowDrewN (Below.refl _ _) _⟩
          | true =>
            obtain ⟨lb, hcb, rfl, IB⟩ : ∃ l, chooseOf hd = some l ∧ nb = l.length ∧ Ints w8 w8.heap.size Ab l := by
              rcases HB8.out with ⟨h, _⟩ | ⟨l, _, h1, h2, h3⟩
              · cases h
              · exact ⟨l, h1, h2, h3⟩
            obtain ⟨la, hca, hle⟩ := HHS.out lb hcb
            obtain ⟨rfl, rfl, IA⟩ : isA = true ∧ na = la.length ∧ Ints w8 w8.heap.size Aa la := by
              rcases HA8.out with ⟨_, h⟩ | ⟨l, h0, h1, h2, h3⟩
              · rw [hca] at h; cases h
              · rw [hca] at h1; injection h1 with h1; subst h1; exact ⟨h0, h2, h3⟩
            have C1 := Lib.hid (fun c W (hv : JobV W W.heap.size (.agg #[.slice hE nE dE, .slice AL4 (nL + mL) cL4, .slice hG nG dG, .int .i64 (jF + fm), .int .i64 (jO + om)]) hd) (hl : Ints W W.heap.size Ab lb) => HCO.out hd lb _ Ab c W hv hl (HFEW.out hd lb hcb))
            have C2 := Lib.hid (fun c W (hv : JobV W W.heap.size (.agg #[.slice aE nE eE, .slice aL nL eL, .slice aG nG eG, .int .i64 jF, .int .i64 jO]) j) (hl : Ints W W.heap.size Aa la) => HCO.out j la _ Aa c W hv hl (HFEW.out j la hca))
            have IBH := Lib.hid IB
            have IAH := Lib.hid IA
            have td : decide (cost hd lb < cost j la) = false := decide_eq_false (by omega)
            clear hcb hca hle IB IA HB8 HA8 HCH HCP HCO HHS HES HFEW BH8
            generalize cost hd lb = ch at *
            generalize cost j la = cj at *
            generalize lb.length = nb at *
            generalize la.length = na at *
            obtain ⟨p0, p1, p2, p3, p4⟩ := job_cells X8.out.drew
            obtain ⟨q0, q1, q2, q3, q4⟩ := job_cells S8.out.ij.box.drew
            have JB : Hid (JobV w8.drew w8.drew.heap.size (.agg #[.slice hE nE dE, .slice AL4 (nL + mL) cL4, .slice hG nG dG, .int .i64 (jF + fm), .int .i64 (jO + om)]) hd) := (OH8.out.under (Below.refl _ w8).drew).job
            have DB : Hid (Ints w8.drew w8.drew.heap.size Ab lb) := IBH.out
            have DA : Hid (Ints w8.drew w8.drew.heap.size Aa la) := IAH.out
            go_region_held3 (fun w' => (w'.cell? ⟨w2.heap.size, 0, none⟩ = some (.slice hE nE dE) ∧ w'.cell? ⟨w2.heap.size, 1, none⟩ = some (.slice AL4 (nL + mL) cL4) ∧ w'.cell? ⟨w2.heap.size, 2, none⟩ = some (.slice hG nG dG) ∧ w'.cell? ⟨w2.heap.size, 3, none⟩ = some (.int .i64 (jF + fm)) ∧ w'.cell? ⟨w2.heap.size, 4, none⟩ = some (.int .i64 (jO + om))) ∧ (w'.cell? ⟨g4, 0, none⟩ = some (.slice aE nE eE) ∧ w'.cell? ⟨g4, 1, none⟩ = some (.slice aL nL eL) ∧ w'.cell? ⟨g4, 2, none⟩ = some (.slice aG nG eG) ∧ w'.cell? ⟨g4, 3, none⟩ = some (.int .i64 jF) ∧ w'.cell? ⟨g4, 4, none⟩ = some (.int .i64 jO)))
              (first | exact ⟨⟨p0, p1, p2, p3, p4⟩, ⟨q0, q1, q2, q3, q4⟩⟩ | exact ⟨job_cells X9.out, job_cells S9.out.ij.box⟩ | exact ⟨job_cells X10.out, job_cells S10.out.ij.box⟩)
              (first
                | (go_at_call 27; (with_reducible refine (C1.out cb _ JB.out DB.out).mono ?_); rintro e w9 ⟨rfl, hb9⟩; have B9 := Lib.hid (show Below w8.heap.size w8 w9 from (Below.refl _ w8).drew.trans hb9); have X9 := Lib.hid (X8.out.under B9.out); have S9 := Lib.hid (S8.out.under B9.out); have I9 := Lib.hid (DA.out.up hb9 hb9.size); obtain ⟨x0, x1, x2, x3, x4⟩ := job_cells X9.out; obtain ⟨y0, y1, y2, y3, y4⟩ := job_cells S9.out.ij.box; clear hb9)
                | (go_at_call 27; (with_reducible refine (C2.out ca _ S9.out.ij.own.job I9.out).mono ?_); rintro e w10 ⟨rfl, hb10⟩; have B10 := Lib.hid (B9.out.trans (hb10.mono B9.out.size)); have X10 := Lib.hid (X9.out.under hb10); have S10 := Lib.hid (S9.out.under hb10); obtain ⟨z0, z1, z2, z3, z4⟩ := job_cells X10.out; obtain ⟨t0, t1, t2, t3, t4⟩ := job_cells S10.out.ij.box; clear hb10)
                | fail)
            go_wp2_with fail
            go_meet
            exact ⟨rfl, B10.out⟩
        case rest =>
          obtain ⟨rfl, B9⟩ := hcut
          obtain ⟨w9, hw9⟩ : ∃ w9, w9 = wc := ⟨_, rfl⟩
          subst hw9
          have S9 := Lib.hid (S8.out.under B9.out)
          have HA9 : Hid ((isA = false ∧ chooseOf j = none) ∨ ∃ l, isA = true ∧ chooseOf j = some l ∧ na = l.length ∧ Ints w9 w9.heap.size Aa l) := HA8.out.imp id (fun ⟨l, h1, h2, h3, h4⟩ => ⟨l, h1, h2, h3, h4.up B9.out (Below.size B9.out)⟩)
          clear HB8 S8 X8 OH8 BH8 HA8 B9 HHS
          -- region 10: Copy(j)
          obtain ⟨q0, q1, q2, q3, q4⟩ := job_cells S9.out.ij.box
          go_wp2_with fail
          refine (HCP.out _ _ S9.out.ij.own.job).mono ?_
          rintro e w10 ⟨⟨v, rfl, hown⟩, hb10⟩
          obtain ⟨kE, xE, kL, xL, kG, xG, rfl⟩ := hown.form
          have OH := Lib.hid hown
          have BH := Lib.hid hb10
          clear hown hb10 q0 q1 q2 q3 q4
          rw [HN.out.1, HN.out.2.1, HN.out.2.2.1, HN.out.2.2.2.2.2.2.1, HN.out.2.2.2.2.2.2.2.1] at OH ⊢
          obtain ⟨w11, hw11⟩ : ∃ w11, w10.alloc (.cells #[.slice kE nE xE, .slice kL nL xL, .slice kG nG xG, .int .i64 jF, .int .i64 jO] 36) = w11 := ⟨_, rfl⟩
          have hb11 : Below w10.heap.size w10 w11 := by rw [← hw11]; exact (Below.refl _ _).alloc (Nat.le_refl _) _
          have XE := Lib.hid (show Box w11 w10.heap.size 36 #[.slice kE nE xE, .slice kL nL xL, .slice kG nG xG, .int .i64 jF, .int .i64 jO] by rw [← hw11]; exact Box.new _ _ _ rfl)
          have OE := Lib.hid (OH.out.under hb11)
          have BE := Lib.hid (BH.out.trans (hb11.mono BH.out.size))
          have S11 := Lib.hid (S9.out.under BE.out)
          have HW11 := Lib.hid hw11
          have hs9 : w9.heap.size ≤ w10.heap.size := BH.out.size
          have hs10 : w10.heap.size < w11.heap.size := XE.out.lt
          clear hw11 hb11 OH BH
          go_upto_region 11 with fail
          rw [HW11.out]
          clear HW11
          -- region 11: a grade more
          have hmG' : 0 < mG := HPG.out
          have hmG : (0 : Int) < (mG : Int) := by omega
          obtain ⟨gb, go, rfl, hgb, d0, d1, d2, d3, d4⟩ := first_grade S11.out.ik.own (by rw [HN.out.2.2.2.2.2.1]; exact HPG.out)
          have D := Lib.hid (And.intro d0 (And.intro d1 (And.intro d2 (And.intro d3 d4))))
          clear d0 d1 d2 d3 d4
          generalize hgy : gd k.Grades 0 = gy at *
          clear hgy
          obtain ⟨y0, y1, y2, y3, y4⟩ := gy
          obtain ⟨d0, d1, d2, d3, d4⟩ := D.out
          dsimp only at d0 d1 d2 d3 d4
          clear D
          go_cut [16] (fun s16 wx => ∃ (Ax : Option Addr) (cx : Nat), s16 = .pointer (some ⟨w10.heap.size, 0, none⟩) ∧ Hid (Below w9.heap.size w9 wx) ∧ Hid (Box wx w10.heap.size 36 #[.slice kE nE xE, .slice kL nL xL, .slice Ax (nG + 1) cx, .int .i64 jF, .int .i64 jO]) ∧ Hid (JobOwn wx w9.heap.size (.agg #[.slice kE nE xE, .slice kL nL xL, .slice Ax (nG + 1) cx, .int .i64 jF, .int .i64 jO]) (easier j ⟨y0, y1, y2, y3, y4⟩)))
          case first =>
            have BA := Lib.hid (show Below w11.heap.size w11 (w11.drew.alloc (.cells #[.int .i64 y0, .int .i64 y1, .int .i64 y2, .int .i64 y3, .int .i64 y4] 63)) from ((Below.refl _ w11).drew).alloc (Nat.le_refl _) _)
            have OA := Lib.hid (OE.out.under BA.out)
            have XA := Lib.hid (XE.out.under BA.out)
            have hsa : w9.heap.size ≤ (w11.drew.alloc (.cells #[.int .i64 y0, .int .i64 y1, .int .i64 y2, .int .i64 y3, .int .i64 y4] 63)).heap.size := by simp; omega
            obtain ⟨og, -, hap⟩ := more_grade OA.out hsa
            have OG := Lib.hid og
            have HAP := Lib.hid hap
            have BA9 := Lib.hid (BE.out.trans (BA.out.mono BE.out.size))
            clear og hap
            have x2 := (show w11.cell? ⟨w10.heap.size, 2, none⟩ = some (.slice kG nG xG) from XE.out.cell 2)
            have x3 := (show w11.cell? ⟨g5, 2, none⟩ = some (.slice (some ⟨gb, go, none⟩) mG fG) from S11.out.ik.box.cell 2)
            generalize hgs : j.Grades.flatMap gradeC = gs at *
            have hnG5 : nG ≤ 5 := by omega
            go_region_law (first
              | (refine step_append_lies _ (by rfl) _ _ _ (by rfl) w9.heap.size 63 i1 _ 5 40 Try.underlying34 hi1 hy0 hy1 hy2 rfl (by omega) (.slice kG nG xG) nG gs (by rfl) OG.out ⟨w11.heap.size, 0, none⟩ 1 1 (gradeC ⟨y0, y1, y2, y3, y4⟩) (by rfl) (by rfl) (cells_new w11.drew (gradeC ⟨y0, y1, y2, y3, y4⟩) 63) (by simp [gradeC, Value.oneCell']) (by omega) (by unfold maxLen; omega) (by omega) hsa (w11.heap.size + 1) (by simp) ?_; intro g12 cap12 w12 hown12 hg12 hat12 hlt12; obtain ⟨oj, hbx, hbl⟩ := HAP.out w12 _ cap12 ⟨y0, y1, y2, y3, y4⟩ hown12 hg12; have X12 := Lib.hid (hbx _ _ XA.out); have O12 := Lib.hid oj; have B12 := Lib.hid (BA9.out.trans hbl); have z2 := X12.out.cell 2; have f2 := X12.out.frozen 2; clear oj hbx hbl hown12 hg12)
              | fail)
            all_goals
              go_wp2_with fail
              go_meet
              exact ⟨some ⟨g12, 0, none⟩, cap12, rfl, B12.out.setCell (p := ⟨w10.heap.size, 2, none⟩) hs9 _, by (unfold Hid; simpa using X12.out.set_ 2 (.slice (some ⟨g12, 0, none⟩) (nG + 1) cap12)), O12.out.put X12.out _⟩
          case rest =>
            obtain ⟨Ax, cx, rfl, BX, XX, OX⟩ := hcut
            obtain ⟨w12, hw12⟩ : ∃ w12, w12 = wc := ⟨_, rfl⟩
            subst hw12
            have S12 := Lib.hid (S9.out.under BX.out)
            have HA12 : Hid ((isA = false ∧ chooseOf j = none) ∨ ∃ l, isA = true ∧ chooseOf j = some l ∧ na = l.length ∧ Ints w12 w12.heap.size Aa l) := HA9.out.imp id (fun ⟨l, h1, h2, h3, h4⟩ => ⟨l, h1, h2, h3, h4.up BX.out (Below.size BX.out)⟩)
            clear S9 HA9 XE OE BE S11 d0 d1 d2 d3 d4 hgb BX
            -- region 12: Choose(easy)
            obtain ⟨q0, q1, q2, q3, q4⟩ := job_cells XX.out
            go_wp2_with fail
            refine (HCH.out _ _ _ OX.out.job).mono ?_
            rintro e w13 ⟨⟨Ac, nc, cc, isC, rfl, hC⟩, hb13⟩
            have HC := Lib.hid hC
            have S13 := Lib.hid (S12.out.under hb13)
            have XX13 := Lib.hid (XX.out.under hb13)
            have OX13 := Lib.hid (OX.out.under hb13)
            have HA13 : Hid ((isA = false ∧ chooseOf j = none) ∨ ∃ l, isA = true ∧ chooseOf j = some l ∧ na = l.length ∧ Ints w13 w13.heap.size Aa l) := HA12.out.imp id (fun ⟨l, h1, h2, h3, h4⟩ => ⟨l, h1, h2, h3, h4.up hb13 (Below.size hb13)⟩)
            clear hC hb13 q0 q1 q2 q3 q4 S12 XX OX HA12 HCH HCP
            go_upto_region 13 with fail
            cases isA with
            | false =>
              have L13 := Lib.hid S13.out.low
              clear HC S13 XX13 OX13 HA13 HCO HES HFEW
              refine AnyBut.begin (S := fun _ : World => True) (z := 100) mixed ?_
              refine AnyBut.takeD 0 84 (v := .bool false) rfl rfl (by decide +kernel) (fun _ _ _ h => h) trivial (Or.inl ⟨by rfl, fun w' _ => by go_simp⟩) ?_
              simp only [List.setIfInBounds_toArray, List.set_cons_zero, List.set_cons_succ]
              refine AnyBut.takeD 1 85 (v := .bool true) rfl rfl (by decide +kernel) (fun _ _ _ h => h) trivial (Or.inl ⟨by rfl, fun w' _ => by go_simp⟩) ?_
              simp only [List.setIfInBounds_toArray, List.set_cons_zero, List.set_cons_succ]
              refine AnyBut.takeD 2 86 (v := .bool true) rfl rfl (by decide +kernel) (fun _ _ _ h => h) trivial (Or.inl ⟨by rfl, fun w' _ => by go_simp⟩) ?_
              simp only [List.setIfInBounds_toArray, List.set_cons_zero, List.set_cons_succ]
              refine AnyBut.takeD 3 87 (v := undef) rfl rfl (by decide +kernel) (fun _ _ _ h => h) trivial (Or.inr ⟨by rfl, rfl⟩) ?_
              simp only [List.setIfInBounds_toArray, List.set_cons_zero, List.set_cons_succ]
              refine AnyBut.takeD 4 88 (v := undef) rfl rfl (by decide +kernel) (fun _ _ _ h => h) trivial (Or.inr ⟨by rfl, rfl⟩) ?_
              simp only [List.setIfInBounds_toArray, List.set_cons_zero, List.set_cons_succ]
              refine AnyBut.takeD 5 89 (v := undef) rfl rfl (by decide +kernel) (fun _ _ _ h => h) trivial (Or.inr ⟨by rfl, rfl⟩) ?_
              simp only [List.setIfInBounds_toArray, List.set_cons_zero, List.set_cons_succ]
              refine AnyBut.takeD 6 90 (v := undef) rfl rfl (by decide +kernel) (fun _ _ _ h => h) trivial (Or.inr ⟨by rfl, rfl⟩) ?_
              simp only [List.setIfInBounds_toArray, List.set_cons_zero, List.set_cons_succ]
              refine AnyBut.takeD 7 91 (v := undef) rfl rfl (by decide +kernel) (fun _ _ _ h => h) trivial (Or.inr ⟨by rfl, rfl⟩) ?_
              simp only [List.setIfInBounds_toArray, List.set_cons_zero, List.set_cons_succ]
              refine AnyBut.takeD 8 92 (v := undef) rfl rfl (by decide +kernel) (fun _ _ _ h => h) trivial (Or.inr ⟨by rfl, rfl⟩) ?_
              simp only [List.setIfInBounds_toArray, List.set_cons_zero, List.set_cons_succ]
              refine AnyBut.takeD 9 93 (v := undef) rfl rfl (by decide +kernel) (fun _ _ _ h => h) trivial (Or.inr ⟨by rfl, rfl⟩) ?_
              simp only [List.setIfInBounds_toArray, List.set_cons_zero, List.set_cons_succ]
              refine AnyBut.takeD 10 94 (v := undef) rfl rfl (by decide +kernel) (fun _ _ _ h => h) trivial (Or.inr ⟨by rfl, rfl⟩) ?_
              simp only [List.setIfInBounds_toArray, List.set_cons_zero, List.set_cons_succ]
              refine AnyBut.takeD 11 95 (v := undef) rfl rfl (by decide +kernel) (fun _ _ _ h => h) trivial (Or.inr ⟨by rfl, rfl⟩) ?_
              simp only [List.setIfInBounds_toArray, List.set_cons_zero, List.set_cons_succ]
              refine AnyBut.takeD 12 96 (v := undef) rfl rfl (by decide +kernel) (fun _ _ _ h => h) trivial (Or.inr ⟨by rfl, rfl⟩) ?_
              simp only [List.setIfInBounds_toArray, List.set_cons_zero, List.set_cons_succ]
              refine AnyBut.takeD 13 97 (v := .bool true) rfl rfl (by decide +kernel) (fun _ _ _ h => h) trivial (Or.inl ⟨by rfl, fun w' _ => by go_simp⟩) ?_
              simp only [List.setIfInBounds_toArray, List.set_cons_zero, List.set_cons_succ]
              refine AnyBut.takeD 14 98 (v := .bool true) rfl rfl (by decide +kernel) (fun _ _ _ h => h) trivial (Or.inl ⟨by rfl, fun w' _ => by go_simp⟩) ?_
              simp only [List.setIfInBounds_toArray, List.set_cons_zero, List.set_cons_succ]
              refine AnyBut.onlyW (i := 15) (by decide +kernel) rfl (by rfl) (fun K hK => ?_)
              go_simp
              refine (law05_awake _).mono ?_
              rintro e w14 ⟨rfl, hb14⟩
              refine hK _ _ (fun _ => trivial) ?_
              clear hK K
              refine AnyBut.takeD 16 100 (v := .bool true) rfl rfl (by decide +kernel) (fun _ _ _ h => h) trivial (Or.inl ⟨by rfl, fun w' _ => by go_simp⟩) ?_
              simp only [List.setIfInBounds_toArray, List.set_cons_zero, List.set_cons_succ]
              refine AnyBut.only (i := 17) (by decide +kernel) rfl rfl (fun K hK => ?_)
              go_simp
              refine hK _ _ (fun _ => trivial) ?_
              clear hK K
              refine AnyBut.done (by decide +kernel) ?_
              have L14 := Lib.hid (HB0.out.trans ((L13.out.drew.trans (hb14.mono L13.out.size)).mono HB0.out.size))
              clear hb14 L13
              go_wp2_with fail
              go_ret
              exact ⟨rfl, L14.out⟩
            | true =>
              obtain ⟨la, hca, rfl, IA⟩ : ∃ l, chooseOf j = some l ∧ na = l.length ∧ Ints w13 w13.heap.size Aa l := by
                rcases HA13.out with ⟨h, _⟩ | ⟨l, _, h1, h2, h3⟩
                · cases h
                · exact ⟨l, h1, h2, h3⟩
              obtain ⟨lc, hcc, hle⟩ := HES.out la hca
              obtain ⟨rfl, rfl, IC⟩ : isC = true ∧ nc = lc.length ∧ Ints w13 w13.heap.size Ac lc := by
                rcases HC.out with ⟨_, h⟩ | ⟨l, h0, h1, h2, h3⟩
                · rw [hcc] at h; cases h
                · rw [hcc] at h1; injection h1 with h1; subst h1; exact ⟨h0, h2, h3⟩
              have C1 := Lib.hid (fun c W (hv : JobV W W.heap.size (.agg #[.slice kE nE xE, .slice kL nL xL, .slice Ax (nG + 1) cx, .int .i64 jF, .int .i64 jO]) (easier j ⟨y0, y1, y2, y3, y4⟩)) (hl : Ints W W.heap.size Ac lc) => HCO.out (easier j ⟨y0, y1, y2, y3, y4⟩) lc _ Ac c W hv hl (HFEW.out _ lc hcc))
              have C2 := Lib.hid (fun c W (hv : JobV W W.heap.size (.agg #[.slice aE nE eE, .slice aL nL eL, .slice aG nG eG, .int .i64 jF, .int .i64 jO]) j) (hl : Ints W W.heap.size Aa la) => HCO.out j la _ Aa c W hv hl (HFEW.out j la hca))
              have ICH := Lib.hid IC
              have IAH := Lib.hid IA
              have td : decide (cost (easier j ⟨y0, y1, y2, y3, y4⟩) lc ≤ cost j la) = true := decide_eq_true hle
              clear hca hcc hle IC IA HC HA13 HCO HES HFEW
              generalize cost (easier j ⟨y0, y1, y2, y3, y4⟩) lc = ce at *
              generalize cost j la = cj at *
              generalize easier j ⟨y0, y1, y2, y3, y4⟩ = ej at *
              generalize lc.length = nc at *
              generalize la.length = na at *
              have hsl := S13.out.low.size
              obtain ⟨p0, p1, p2, p3, p4⟩ := job_cells XX13.out.drew
              obtain ⟨q0, q1, q2, q3, q4⟩ := job_cells S13.out.ij.box.drew
              have JB : Hid (JobV w13.drew w13.drew.heap.size (.agg #[.slice kE nE xE, .slice kL nL xL, .slice Ax (nG + 1) cx, .int .i64 jF, .int .i64 jO]) ej) := (OX13.out.under (Below.refl _ w13).drew).job
              have DC : Hid (Ints w13.drew w13.drew.heap.size Ac lc) := ICH.out
              have DA : Hid (Ints w13.drew w13.drew.heap.size Aa la) := IAH.out
              go_region_held3 (fun w' => (w'.cell? ⟨w10.heap.size, 0, none⟩ = some (.slice kE nE xE) ∧ w'.cell? ⟨w10.heap.size, 1, none⟩ = some (.slice kL nL xL) ∧ w'.cell? ⟨w10.heap.size, 2, none⟩ = some (.slice Ax (nG + 1) cx) ∧ w'.cell? ⟨w10.heap.size, 3, none⟩ = some (.int .i64 jF) ∧ w'.cell? ⟨w10.heap.size, 4, none⟩ = some (.int .i64 jO)) ∧ (w'.cell? ⟨g4, 0, none⟩ = some (.slice aE nE eE) ∧ w'.cell? ⟨g4, 1, none⟩ = some (.slice aL nL eL) ∧ w'.cell? ⟨g4, 2, none⟩ = some (.slice aG nG eG) ∧ w'.cell? ⟨g4, 3, none⟩ = some (.int .i64 jF) ∧ w'.cell? ⟨g4, 4, none⟩ = some (.int .i64 jO)))
                (first | exact ⟨⟨p0, p1, p2, p3, p4⟩, ⟨q0, q1, q2, q3, q4⟩⟩ | exact ⟨job_cells X14.out, job_cells S14.out.ij.box⟩ | exact ⟨job_cells X15.out, job_cells S15.out.ij.box⟩ | exact ⟨job_cells X16.out, job_cells S16.out.ij.box⟩)
                (first
                  | (go_at_call 27; (with_reducible refine (C1.out cc _ JB.out DC.out).mono ?_); rintro e w14 ⟨rfl, hb14⟩; have B14 := Lib.hid (show Below w13.heap.size w13 w14 from (Below.refl _ w13).drew.trans hb14); have X14 := Lib.hid (XX13.out.under B14.out); have S14 := Lib.hid (S13.out.under B14.out); have I14 := Lib.hid (DA.out.up hb14 hb14.size); obtain ⟨r0, r1, r2, r3, r4⟩ := job_cells X14.out; obtain ⟨s0, s1, s2, s3, s4⟩ := job_cells S14.out.ij.box; clear hb14)
                  | (go_at_call 27; (with_reducible refine (C2.out ca _ S14.out.ij.own.job I14.out).mono ?_); rintro e w15 ⟨rfl, hb15⟩; have X15 := Lib.hid (X14.out.under hb15); have S15 := Lib.hid (S14.out.under hb15); obtain ⟨z0, z1, z2, z3, z4⟩ := job_cells X15.out; obtain ⟨t0, t1, t2, t3, t4⟩ := job_cells S15.out.ij.box; clear hb15)
                  | (go_at_call 14; (with_reducible refine (law05_awake _).mono ?_); rintro e w16 ⟨rfl, hb16⟩; have X16 := Lib.hid (X15.out.under hb16); have S16 := Lib.hid (S15.out.under hb16); obtain ⟨m0, m1, m2, m3, m4⟩ := job_cells X16.out; obtain ⟨n0, n1, n2, n3, n4⟩ := job_cells S16.out.ij.box; clear hb16)
                  | fail)
              go_wp2_with fail
              go_ret
              exact ⟨rfl, HB0.out.trans (S16.out.low.mono HB0.out.size)⟩

end Go.Proofs.Ytannipfohicpmaa
