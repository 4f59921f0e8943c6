/- Walks of the package casing: the search for the best choice, second part. -/
import Derived.Test.YtbbgbidpglhkfaaChoose1
import Derived.Test.YtbbgbidpglhkfaaLawPulls
import Derived.Laws.EntriesVeiled
namespace Go.Proofs.Ytbbgbidpglhkfaa
open Go.RowKit Go.Shelf Mpl

theorem range_fold (f : Option (List Int) → Nat → Option (List Int)) (k : Nat) (b : Option (List Int)) : (List.range (k + 1)).foldl f b = f ((List.range k).foldl f b) k := by
  rw [List.range_succ, List.foldl_append]
  rfl

theorem better_no {j : Job} {b : Option (List Int)} {so : List Int} (h : ¬ (bearsFrom j so 0 so.length).1 < 0) : better j b so = b := by
  unfold better
  rw [if_neg h]

set_option maxHeartbeats 8000000 in
set_option maxRecDepth 100000 in
theorem choose_leaf (w : World) (M : Nat) (j : Job) (aE aL aG : Option Addr) (nE nL nG eE eL eG : Nat) (hnE : j.Ends.length = nE) (hJ : JobV w w.heap.size (.agg #[.slice aE nE eE, .slice aL nL eL, .slice aG nG eG, .int .i64 j.Factor, .int .i64 j.Over]) j) (hok : checkJob j = 0) (hgr : j.Grades.length = nG)
    (so : List Int) (b : Option (List Int)) (W : World) (hlen : so.length = nE) (hso : GradesSo so nG) (hC : Ch w M #[.slice aE nE eE, .slice aL nL eL, .slice aG nG eG, .int .i64 j.Factor, .int .i64 j.Over] j W so b) :
    Calls Try.prog 40 #[.pointer (some ⟨M + 1 + 1, 0, none⟩), .pointer (some ⟨w.heap.size, 0, none⟩), .pointer (some ⟨M + 1, 0, none⟩), .pointer (some ⟨M + 1 + 1 + 1, 0, none⟩)] W fun e W' => (∃ v, e = .returned v) ∧ Ch w M #[.slice aE nE eE, .slice aL nL eL, .slice aG nG eG, .int .i64 j.Factor, .int .i64 j.Over] j W' so (better j b so) := by
  have hch := isChoice_chosen (isChoice_of hok (hlen.trans hnE.symm) (by rw [hgr]; exact hso))
  obtain ⟨vs, a, n, cap, c, hS⟩ := hC
  have hfew := hch.few
  have hpos := hch.pos
  have hown := hS.own
  obtain ⟨As, cs, rfl, _, hI⟩ := Ints.own hown
  obtain ⟨b0, o0, rfl, hb0, _⟩ := hI (by omega)
  have HIN := Lib.hid (fun W' (hW : Below W.heap.size W W') => hI.up hW hW.size)
  have HBE := Lib.hid (fun W' (hW : Below W.heap.size W W') => casing_bears0 j so _ (some ⟨b0, o0, none⟩) cs W' ((hJ.below hS.low).below hW) (hI.up hW hW.size) hch)
  have HCO := Lib.hid (fun W' (hW : Below W.heap.size W W') => casing_cost j so _ (some ⟨b0, o0, none⟩) cs W' ((hJ.below hS.low).below hW) (hI.up hW hW.size) hch)
  have HOF := Lib.hid (fun W' (hW : Below W.heap.size W W') => best_offer (M) a n cap c (sumCost j so) so b0 o0 cs W' (hS.under hW).best (hI.up hW hW.size) (by omega))
  have hsc : Hid (sumFrom (costOf j so) 0 so.length = sumCost j so) := rfl
  rw [hsc.out] at HCO
  have HS := Lib.hid hS
  have hM := hS.lt
  have q0 := hS.sov.cell 0
  have q1 := hS.job.cell 0
  have q2 := hS.job.cell 1
  have q3 := hS.job.cell 2
  have q4 := hS.job.cell 3
  have q5 := hS.job.cell 4
  simp only [List.getElem?_toArray, List.getElem?_cons_zero, List.getElem?_cons_succ] at q0 q1 q2 q3 q4 q5
  have HOFF := Lib.hid (fun W' (hW : Below W.heap.size W W') hb W2 => ChSt.offered (W' := W2) (HS.out.under hW) hb)
  clear hS hI hch hown hJ
  have hd : Hid (better j b so = if (bearsFrom j so 0 so.length).1 < 0 then better j b so else b) := by
    unfold Hid
    by_cases h : (bearsFrom j so 0 so.length).1 < 0
    · rw [if_pos h]
    · rw [if_neg h, better_no h]
  generalize better j b so = nb at *
  generalize bearsFrom j so 0 so.length = br at *
  generalize sumCost j so = sc at *
  rw [hlen] at q0 HBE HCO HOF
  have hnn : ((nE : Int) == (nE : Int)) = true := by simp
  by_cases hneg : br.1 < 0
  · rw [if_pos hneg] at hd
    have hneg' : decide (br.1 < 0) = true := decide_eq_true hneg
    go_enter Try.func40, Try.ntmps40
    go_wp2_with fail
    refine (HBE.out W (Below.refl _ _)).mono ?_
    rintro e W1 ⟨rfl, hb1⟩
    have HB1 := Lib.hid hb1
    clear hb1 q0 q1 q2 q3 q4 q5
    have S1 := Lib.hid (HS.out.under HB1.out)
    have q0 := S1.out.sov.cell 0
    have q1 := S1.out.job.cell 0
    have q2 := S1.out.job.cell 1
    have q3 := S1.out.job.cell 2
    have q4 := S1.out.job.cell 3
    have q5 := S1.out.job.cell 4
    have q6 := S1.out.bvar.cell 0
    simp only [List.getElem?_toArray, List.getElem?_cons_zero, List.getElem?_cons_succ] at q0 q1 q2 q3 q4 q5 q6
    rw [hlen] at q0
    go_wp2_with fail
    go_region_held3 (fun w' => w'.cell? ⟨M + 1 + 1, 0, none⟩ = some (.slice (some ⟨b0, o0, none⟩) nE cs) ∧ w'.cell? ⟨M + 1, 0, none⟩ = some (.pointer (some ⟨M, 0, none⟩)) ∧ w'.cell? ⟨w.heap.size, 0, none⟩ = some (.slice aE nE eE) ∧ w'.cell? ⟨w.heap.size, 1, none⟩ = some (.slice aL nL eL) ∧ w'.cell? ⟨w.heap.size, 2, none⟩ = some (.slice aG nG eG) ∧ w'.cell? ⟨w.heap.size, 3, none⟩ = some (.int .i64 j.Factor) ∧ w'.cell? ⟨w.heap.size, 4, none⟩ = some (.int .i64 j.Over))
      (first | exact ⟨q0, q6, q1, q2, q3, q4, q5⟩ | exact ⟨x0, x6, x1, x2, x3, x4, x5⟩ | exact ⟨y0, y6, y1, y2, y3, y4, y5⟩)
      (first
        | (go_at_call 42; refine (HCO.out _ HB1.out.drew).mono ?_; rintro e W2 ⟨rfl, hb2⟩; have B2 := Lib.hid (HB1.out.drew.trans (hb2.mono HB1.out.drew.size)); have S2 := Lib.hid (HS.out.under B2.out); have x0 := S2.out.sov.cell 0; have x1 := S2.out.job.cell 0; have x2 := S2.out.job.cell 1; have x3 := S2.out.job.cell 2; have x4 := S2.out.job.cell 3; have x5 := S2.out.job.cell 4; have x6 := S2.out.bvar.cell 0; simp only [List.getElem?_toArray, List.getElem?_cons_zero, List.getElem?_cons_succ] at x0 x1 x2 x3 x4 x5 x6; rw [hlen] at x0)
        | (go_at_call 41; refine (HOF.out _ B2.out).mono ?_; rintro e W3 ⟨⟨v, rfl⟩, hO⟩; have C3 := Lib.hid (HOFF.out _ B2.out hneg W3 hO); have y0 := (S2.out.sov.grown hO.1 (by intro he; injection he with he; omega)).cell 0; have y1 := (S2.out.job.grown hO.1 (by intro he; injection he with he; omega)).cell 0; have y2 := (S2.out.job.grown hO.1 (by intro he; injection he with he; omega)).cell 1; have y3 := (S2.out.job.grown hO.1 (by intro he; injection he with he; omega)).cell 2; have y4 := (S2.out.job.grown hO.1 (by intro he; injection he with he; omega)).cell 3; have y5 := (S2.out.job.grown hO.1 (by intro he; injection he with he; omega)).cell 4; have y6 := (S2.out.bvar.grown hO.1 (by intro he; injection he with he; omega)).cell 0; simp only [List.getElem?_toArray, List.getElem?_cons_zero, List.getElem?_cons_succ] at y0 y1 y2 y3 y4 y5 y6; rw [hlen] at y0)
        | fail)
    go_wp2_with fail
    refine bodyPost_ret (results_none rfl _ _ _) rfl ?_
    exact ⟨⟨_, rfl⟩, C3.out⟩
  · rw [if_neg hneg] at hd
    have hneg' : decide (br.1 < 0) = false := decide_eq_false hneg
    go_enter Try.func40, Try.ntmps40
    go_wp2_with fail
    refine (HBE.out W (Below.refl _ _)).mono ?_
    rintro e W1 ⟨rfl, hb1⟩
    go_wp2_with fail
    refine bodyPost_ret (results_none rfl _ _ _) rfl ?_
    rw [hd.out]
    exact ⟨⟨_, rfl⟩, _, a, n, cap, c, HS.out.under hb1⟩

set_option maxHeartbeats 8000000 in
set_option maxRecDepth 100000 in
theorem choose_step (w : World) (M : Nat) (j : Job) (aE aL aG : Option Addr) (nE nL nG eE eL eG : Nat) (hgr4 : nG ≤ 6) (hE5 : nE ≤ 5) (d : Nat)
    (ih : ∀ (so : List Int) (b : Option (List Int)) (W : World), so.length + d = nE → GradesSo so nG → Ch w M #[.slice aE nE eE, .slice aL nL eL, .slice aG nG eG, .int .i64 j.Factor, .int .i64 j.Over] j W so b →
      Calls Try.prog 40 #[.pointer (some ⟨M + 1 + 1, 0, none⟩), .pointer (some ⟨w.heap.size, 0, none⟩), .pointer (some ⟨M + 1, 0, none⟩), .pointer (some ⟨M + 1 + 1 + 1, 0, none⟩)] W fun e W' => (∃ v, e = .returned v) ∧ Ch w M #[.slice aE nE eE, .slice aL nL eL, .slice aG nG eG, .int .i64 j.Factor, .int .i64 j.Over] j W' so (explore j d so b))
    (so : List Int) (b : Option (List Int)) (W : World) (hlen : so.length + (d + 1) = nE) (hso : GradesSo so nG) (hC : Ch w M #[.slice aE nE eE, .slice aL nL eL, .slice aG nG eG, .int .i64 j.Factor, .int .i64 j.Over] j W so b) :
    Calls Try.prog 40 #[.pointer (some ⟨M + 1 + 1, 0, none⟩), .pointer (some ⟨w.heap.size, 0, none⟩), .pointer (some ⟨M + 1, 0, none⟩), .pointer (some ⟨M + 1 + 1 + 1, 0, none⟩)] W fun e W' => (∃ v, e = .returned v) ∧ Ch w M #[.slice aE nE eE, .slice aL nL eL, .slice aG nG eG, .int .i64 j.Factor, .int .i64 j.Over] j W' so ((List.range nG).foldl (fun b (g : Nat) => explore j d (so ++ [(g : Int)]) b) b) := by
  have HIH := Lib.hid ih
  clear ih
  obtain ⟨vs, a, n, cap, c, hS⟩ := hC
  have hwf : ∃ As cs, vs = .slice As so.length cs := by
    obtain ⟨As, cs, h, _, _⟩ := own_form hS.own
    exact ⟨As, cs, h⟩
  obtain ⟨As, cs, rfl⟩ := hwf
  have HS0 := Lib.hid (show Ch w M #[.slice aE nE eE, .slice aL nL eL, .slice aG nG eG, .int .i64 j.Factor, .int .i64 j.Over] j W so b from ⟨_, a, n, cap, c, hS⟩)
  have hM := hS.lt
  have q0 := hS.sov.cell 0
  have q1 := hS.job.cell 0
  have q3 := hS.job.cell 2
  simp only [List.getElem?_toArray, List.getElem?_cons_zero, List.getElem?_cons_succ] at q0 q1 q3
  clear hS
  have HF := Lib.hid (range_fold (fun b (g : Nat) => explore j d (so ++ [(g : Int)]) b))
  have hne : ((so.length : Int) == (nE : Int)) = false := beq_eq_false_iff_ne.2 (by omega)
  have hne2 : (so.length == nE) = false := beq_eq_false_iff_ne.2 (by omega)
  have HSO := Lib.hid hso
  obtain ⟨i0, hi0, hz0, hz1, hz2⟩ := info_parts info_int
  generalize hk : so.length = ls at *
  have HK := Lib.hid hk
  clear hk hso
  go_enter Try.func40, Try.ntmps40
  go_wp2_with fail
  clear q0 q1 q3 hne hne2
  go_loopw [30] (fun s30 wr => ∃ g : Nat, g ≤ nG ∧ s30 = .int .i64 g ∧ Hid (Ch w M #[.slice aE nE eE, .slice aL nL eL, .slice aG nG eG, .int .i64 j.Factor, .int .i64 j.Over] j wr so ((List.range g).foldl (fun b (g : Nat) => explore j d (so ++ [(g : Int)]) b) b))) (fun s30 _ => nG - (intOf s30).toNat)
  case atStart => exact ⟨0, Nat.zero_le _, rfl, HS0⟩
  case round =>
    obtain ⟨g, hg, rfl, hCh⟩ := hrel
    by_cases hlt : g < nG
    · obtain ⟨vs, a, n, cap, c, hS⟩ := hCh.out
      have hwf : ∃ As cs, vs = .slice As so.length cs := by
        obtain ⟨As, cs, h, _, _⟩ := own_form hS.own
        exact ⟨As, cs, h⟩
      obtain ⟨As, cs, rfl⟩ := hwf
      have hf := Lib.hid (HF.out g b)
      generalize (List.range g).foldl (fun b (g : Nat) => explore j d (so ++ [(g : Int)]) b) b = bg at *
      have HS := Lib.hid hS
      have q0 := hS.sov.cell 0
      have f0 := hS.sov.frozen 0
      have lt0 := hS.sov.lt
      have hsz := hS.size
      simp only [List.getElem?_toArray, List.getElem?_cons_zero] at q0
      rw [HK.out] at q0
      have hso5 : ls ≤ 5 := by omega
      have OWN := Lib.hid hS.own
      rw [HK.out] at OWN
      clear hS hCh
      go_wp2_with (at_builtin; refine wpList_append_lies _ rfl _ _ 52 rfl (M + 1 + 1 + 1 + 1) 3 i0 (.int .i64 0) 1 8 Try.underlying52 hi0 hz0 hz1 hz2 rfl (by decide) (.slice As ls cs) ls (so.map (Value.int .i64)) rfl (OWN.out.alloc _) ⟨wr.heap.size, 0, none⟩ 1 1 [.int .i64 g] rfl rfl ?_ ?_ ?_ ?_ ?_ ?_ (wr.heap.size + 1) ?_ ?_)
      · exact cells_new wr [.int .i64 g] 3
      · simp [Value.oneCell']
      · omega
      · unfold maxLen; omega
      · omega
      · simp; omega
      · simp
      intro g' cap' w1 hown1 hg1 hat1 _
      have PUSH := Lib.hid (HS.out.push (x := (g : Int)) (g := g') (cap' := cap') (W1 := w1) (by rw [HK.out]; exact hg1) (by rw [HK.out]; exact hown1) (by rw [HK.out]; exact hat1))
      rw [HK.out] at PUSH
      have hB1 := below_grown ((Below.refl (M + 1 + 1 + 1 + 1) wr).alloc hsz _) (OWN.out.alloc _) hg1 (by simp; omega)
      have b1 := HS.out.sov.below hB1 (by omega)
      have HB1 := Lib.hid hB1
      clear hown1 hg1 hat1 q0 f0 lt0
      have q0 := b1.cell 0
      have f0 := b1.frozen 0
      simp only [List.getElem?_toArray, List.getElem?_cons_zero] at q0
      have n0 := (HS.out.nxt.below hB1 (by omega)).cell 0
      simp only [List.getElem?_toArray, List.getElem?_cons_zero] at n0
      clear b1 hB1
      have IH := Lib.hid (HIH.out (so ++ [(g : Int)]) bg _ (by rw [List.length_append, HK.out]; simp; omega) (HSO.out.snoc (by omega) (by omega)) ⟨_, a, n, cap, c, PUSH.out⟩)
      rw [← hf.out] at IH
      go_wp2_with fail
      refine IH.out.mono ?_
      rintro e w3 ⟨⟨v, rfl⟩, hC3⟩
      obtain ⟨vs3, a3, n3, cap3, c3, hS3⟩ := hC3
      have hwf3 : ∃ g3 cs3, vs3 = .slice (some ⟨g3, 0, none⟩) (ls + 1) cs3 := by
        have ho := hS3.own
        rw [List.length_append, HK.out] at ho
        obtain ⟨g3, cp3, h3, _⟩ := own_out ho (by simp)
        exact ⟨g3, cp3, by simpa using h3⟩
      obtain ⟨g3, cs3, rfl⟩ := hwf3
      have hcap3 : ls + 1 ≤ cs3 := by
        have ho := hS3.own
        rw [List.length_append, HK.out] at ho
        obtain ⟨g4, cp4, h4, h5, _⟩ := own_out ho (by simp)
        cases h4
        simpa using h5
      have POP := Lib.hid hS3.pop
      rw [HK.out] at POP
      have p0 := hS3.sov.cell 0
      have pf := hS3.sov.frozen 0
      simp only [List.getElem?_toArray, List.getElem?_cons_zero] at p0
      clear hS3 q0 f0 n0 PUSH IH HS
      go_wp2_with fail
      go_roundw
      case rel => exact ⟨g + 1, hlt, by go_num, _, a3, n3, cap3, c3, POP.out⟩
      case measure => simp [intOf]; omega
    · obtain rfl : g = nG := by omega
      go_wp2_with fail
      go_end0
      exact ⟨⟨_, rfl⟩, hCh.out⟩

theorem choose_all (w : World) (M : Nat) (j : Job) (aE aL aG : Option Addr) (nE nL nG eE eL eG : Nat) (hnE : j.Ends.length = nE) (hJ : JobV w w.heap.size (.agg #[.slice aE nE eE, .slice aL nL eL, .slice aG nG eG, .int .i64 j.Factor, .int .i64 j.Over]) j) (hok : checkJob j = 0) (hgr : j.Grades.length = nG) (d : Nat) :
    ∀ (so : List Int) (b : Option (List Int)) (W : World), so.length + d = nE → GradesSo so nG → Ch w M #[.slice aE nE eE, .slice aL nL eL, .slice aG nG eG, .int .i64 j.Factor, .int .i64 j.Over] j W so b →
      Calls Try.prog 40 #[.pointer (some ⟨M + 1 + 1, 0, none⟩), .pointer (some ⟨w.heap.size, 0, none⟩), .pointer (some ⟨M + 1, 0, none⟩), .pointer (some ⟨M + 1 + 1 + 1, 0, none⟩)] W fun e W' => (∃ v, e = .returned v) ∧ Ch w M #[.slice aE nE eE, .slice aL nL eL, .slice aG nG eG, .int .i64 j.Factor, .int .i64 j.Over] j W' so (explore j d so b) := by
  have hgood := checkJob_good hok
  induction d with
  | zero =>
    intro so b W hl hso hC
    exact choose_leaf w M j aE aL aG nE nL nG eE eL eG hnE hJ hok hgr so b W (by omega) hso hC
  | succ d ih =>
    intro so b W hl hso hC
    have := choose_step w M j aE aL aG nE nL nG eE eL eG (by rw [← hgr]; exact hgood.ngr) (by rw [← hnE]; exact hgood.ends.few) d ih so b W hl hso hC
    rw [explore, hgr]
    exact this

/-- what Choose hands back -/
def ChosenV (w : World) (j : Job) (e : Ending) (w' : World) : Prop :=
  (match chooseOf j with
   | none => e = .returned (.tuple #[.slice none 0 0, .bool false])
   | some l => ∃ A c, e = .returned (.tuple #[.slice A l.length c, .bool true]) ∧ Ints w' w'.heap.size A l) ∧ Below w.heap.size w w'

set_option maxHeartbeats 4000000 in
set_option maxRecDepth 100000 in
theorem casing_Choose (j : Job) (v0 : Value) (w : World) (hv : JobV w w.heap.size v0 j) :
    Calls Try.prog 19 #[v0] w (ChosenV w j) := by
  have HV := Lib.hid hv
  obtain ⟨AE, cE, AL, cL, AG, cG, rfl, _, _, _, _⟩ := hv
  have HCK := Lib.hid (fun W (hW : Below w.heap.size w W) => casing_Check j _ W (HV.out.below hW))
  have HALL := Lib.hid (fun M hok => choose_all w M j AE AL AG _ _ _ cE cL cG rfl HV.out hok rfl)
  have HCO : Hid (chooseOf j = if checkJob j = 0 then explore j j.Ends.length [] none else none) := rfl
  have hnq := fun (W : World) (a : Option Addr) (n c n' c' : Nat) => run_neq_slice_nil_any (P := Try.prog) W 52 3 a n c n' c' Try.underlying52
  generalize checkJob j = r at *
  generalize hnE : j.Ends.length = nE at *
  generalize j.Loads.length = nL at *
  generalize j.Grades.length = nG at *
  have HB := Lib.hid ((Below.refl w.heap.size w).alloc (Nat.le_refl _) (.cells #[.slice AE nE cE, .slice AL nL cL, .slice AG nG cG, .int .i64 j.Factor, .int .i64 j.Over] 42))
  have B0 := Lib.hid (Box.new w 42 #[.slice AE nE cE, .slice AL nL cL, .slice AG nG cG, .int .i64 j.Factor, .int .i64 j.Over] rfl)
  clear hnE
  by_cases h1 : r = 0
  case neg =>
    have h1' : (r != 0) = true := by simpa using h1
    rw [if_neg h1] at HCO
    go_enter Try.func19, Try.ntmps19
    go_wp2_with fail
    refine (HCK.out _ HB.out).mono ?_
    rintro e w1 ⟨rfl, hb1⟩
    go_wp2_with fail
    go_ret2
    refine ⟨?_, HB.out.trans (hb1.mono HB.out.size)⟩
    rw [HCO.out]
    rfl
  rw [if_pos h1] at HCO
  have HAL := Lib.hid (fun M => HALL.out M h1)
  subst h1
  go_enter Try.func19, Try.ntmps19
  go_wp2_with fail
  refine (HCK.out _ HB.out).mono ?_
  rintro e w1 ⟨rfl, hb1⟩
  have HB1 := Lib.hid (HB.out.trans (hb1.mono HB.out.size))
  have hM : w.heap.size < w1.heap.size := by have := hb1.size; simp at this; omega
  have Hjb := Lib.hid (B0.out.under hb1)
  clear hb1
  obtain ⟨F, hF⟩ : ∃ F : Value, F = .func (.func 40) #[] #[.pointer (some ⟨w1.heap.size + 1 + 1, 0, none⟩), .pointer (some ⟨w.heap.size, 0, none⟩), .pointer (some ⟨w1.heap.size + 1, 0, none⟩), .pointer (some ⟨w1.heap.size + 1 + 1 + 1, 0, none⟩)] := ⟨_, rfl⟩
  have HF := Lib.hid hF
  clear hF
  obtain ⟨w2, hw2⟩ : ∃ w2, ((((w1.alloc (.cells #[.slice none 0 0, .int .i64 0] 79)).alloc (.cells #[.pointer (some ⟨w1.heap.size, 0, none⟩)] 77)).alloc (.cells #[.slice none 0 0] 52)).alloc (.cells #[.func (.func 40) #[] #[.pointer (some ⟨w1.heap.size + 1 + 1, 0, none⟩), .pointer (some ⟨w.heap.size, 0, none⟩), .pointer (some ⟨w1.heap.size + 1, 0, none⟩), .pointer (some ⟨w1.heap.size + 1 + 1 + 1, 0, none⟩)]] 1)) = w2 := ⟨_, rfl⟩
  have hCS : Ch w w1.heap.size #[.slice AE nE cE, .slice AL nL cL, .slice AG nG cG, .int .i64 j.Factor, .int .i64 j.Over] j w2 [] none := by
    rw [← hw2]
    refine ⟨.slice none 0 0, none, 0, 0, 0, (((Hjb.out.alloc _).alloc _).alloc _).alloc _, (((Box.new w1 _ _ rfl).alloc _).alloc _).alloc _, ((Box.new _ _ _ (by simp)).alloc _).alloc _, (Box.new _ _ _ (by simp)).alloc _, Box.new _ _ _ (by simp), World.ownsRow_nil _ _ _ _, ⟨rfl, rfl, rfl⟩, .inl rfl, ?_, hM, by simp⟩
    have h := HB1.out.size
    exact (((HB1.out.alloc h _).alloc (by simp; omega) _).alloc (by simp; omega) _).alloc (by simp; omega) _
  have IH := Lib.hid (HAL.out w1.heap.size nE [] none w2 (by simp) (GradesSo.nil _) hCS)
  rw [← HCO.out] at IH
  have HW2 := Lib.hid hw2
  clear hw2 hCS
  go_wp2_with fail
  rw [HW2.out]
  refine IH.out.mono ?_
  rintro e w3 ⟨⟨v, rfl⟩, hC3⟩
  obtain ⟨vs, a, n, cap, c, hS⟩ := hC3
  have HS := Lib.hid hS
  have q0 := hS.bvar.cell 0
  have q1 := hS.best.cell 0
  simp only [List.getElem?_toArray, List.getElem?_cons_zero] at q0 q1
  clear hS IH HW2 HAL HALL
  go_wp2_with fail
  go_quiet (fail)
  go_wp2_with fail
  go_ret2
  refine ⟨?_, belowDrewN HS.out.low _⟩
  have hok := HS.out.ok
  cases hb : chooseOf j with
  | none =>
    rw [hb] at hok
    obtain ⟨rfl, rfl, rfl⟩ := hok
    rfl
  | some l =>
    rw [hb] at hok
    obtain ⟨h1, h2, h3, _⟩ := hok
    subst h2
    obtain ⟨A, c', hv, _, hI⟩ := Ints.own h3
    refine ⟨a, cap, ?_, ?_⟩
    · cases a with
      | none => cases h1
      | some a => rfl
    · injection hv with hv1 _ _
      rw [hv1]
      exact hI

end Go.Proofs.Ytbbgbidpglhkfaa
