/- Walks of the package casing: why a section does not bear. -/
import Derived.Test.YtannipfohicpmaaPulls
import Derived.Deep.RegionHeld3
import Derived.Deep.DeepCutAuto
namespace Go.Proofs.Ytannipfohicpmaa
open Go.RowKit Go.Shelf Mpl

/-- the first load from k on that is too much -/
theorem any_from {α : Type} (q : α → Bool) (l : List α) (k : Nat) (h : k < l.length) : (l.drop k).any q = (q l[k] || (l.drop (k + 1)).any q) := by
  rw [List.drop_eq_getElem_cons h, List.any_cons]

def secV (lo hi : Int) : Value := .agg #[.int .i64 lo, .int .i64 hi]

set_option maxHeartbeats 4000000 in
set_option maxRecDepth 100000 in
theorem casing_why (j : Job) (lo hi : Int) (g : Grade) (pull : Int) (v0 : Value) (w : World) (hv : JobV w w.heap.size v0 j) (hg : fairGrade g = true) (hp0 : 0 ≤ pull) (hp1 : pull ≤ 70368744177664) (hn : j.Loads.length ≤ 6) :
    Calls Try.prog 89 #[v0, secV lo hi, gradeV g, .int .i64 pull] w fun e w' => e = .returned (.int .i64 (why j lo hi g pull)) ∧ Below w.heap.size w w' := by
  unfold secV gradeV
  obtain ⟨AE, cE, AL, cL, AG, cG, rfl, hcap, hE, hL, hG⟩ := hv
  have HL := Lib.hid hL
  clear hE hL hG hcap
  generalize hnE : j.Ends.length = nE at *
  generalize hnL : j.Loads.length = nL at *
  have HNL := Lib.hid hnL
  generalize hnG : j.Grades.length = nG at *
  clear hnE hnL hnG
  have HF := Lib.hid (fair_bounds hg)
  clear hg
  generalize hres : why j lo hi g pull = res
  have HR := Lib.hid hres
  clear hres
  obtain ⟨w3, hw3⟩ : ∃ w3, ((w.alloc (.cells #[.slice AE nE cE, .slice AL nL cL, .slice AG nG cG, .int .i64 j.Factor, .int .i64 j.Over] 36)).alloc (.cells #[.int .i64 lo, .int .i64 hi] 116)).alloc (.cells #[.int .i64 g.Burst, .int .i64 g.Collapse, .int .i64 g.Pull, .int .i64 g.Weight, .int .i64 g.Cost] 63) = w3 := ⟨_, rfl⟩
  have b0 : Box w3 w.heap.size 36 #[.slice AE nE cE, .slice AL nL cL, .slice AG nG cG, .int .i64 j.Factor, .int .i64 j.Over] := by rw [← hw3]; exact ((Box.new w _ _ rfl).alloc _).alloc _
  have b1 : Box w3 (w.heap.size + 1) 116 #[.int .i64 lo, .int .i64 hi] := by rw [← hw3]; exact (Box.new _ _ _ (by simp)).alloc _
  have b2 : Box w3 (w.heap.size + 1 + 1) 63 #[.int .i64 g.Burst, .int .i64 g.Collapse, .int .i64 g.Pull, .int .i64 g.Weight, .int .i64 g.Cost] := by rw [← hw3]; exact Box.new _ _ _ (by simp)
  have hB3 : Below w.heap.size w w3 := by rw [← hw3]; exact (by repeat (first | exact Below.refl _ _ | assumption | refine Below.setCell ?_ (by first | (simp; done) | (simp; omega)) _ | refine belowDrewN ?_ _ | refine Below.drew ?_ | refine Below.alloc ?_ (by first | (simp; done) | (simp; omega)) _))
  have HW3 := Lib.hid hw3
  clear hw3
  have q01 := b0.cell 1
  simp only [List.getElem?_toArray, List.getElem?_cons_zero, List.getElem?_cons_succ] at q01
  go_enter Try.func89, Try.ntmps89
  go_wp2_with fail
  rw [HW3.out]
  clear q01
  go_loopw [17] (fun s17 wr => ∃ k : Nat, k ≤ nL ∧ s17 = .int .i64 k ∧ Hid ((j.Loads.drop k).any (fun l => decide (g.Burst < needed (inside l lo hi) j.Factor)) = whyBurst j lo hi g) ∧ Hid (Below w3.heap.size w3 wr)) (fun s17 _ => nL - (intOf s17).toNat)
  case atStart => exact ⟨0, Nat.zero_le _, rfl, rfl, Below.refl _ _⟩
  case round =>
    obtain ⟨k, hk, rfl, hr, BW⟩ := hrel
    have BB : Hid (Below w.heap.size w wr) := hB3.trans (BW.out.mono hB3.size)
    by_cases hlt : k < nL
    · have hkl : k < j.Loads.length := by rw [HNL.out]; exact hlt
      obtain ⟨b, off, AI, AO, cI, cO, rfl, hb, hc⟩ := HL.out (by omega)
      obtain ⟨c0, c1, hk0, hk1⟩ := hc k hkl
      clear hc
      have d0 := oldCell BB.out hb c0
      have d1 := oldCell BB.out hb c1
      clear c0 c1
      have hstep := Lib.hid (any_from (fun l => decide (g.Burst < needed (inside l lo hi) j.Factor)) j.Loads k hkl)
      have hld : ld j.Loads k = j.Loads[k] := by simp [ld, hkl]
      rw [← hld] at hstep
      have HSV : Hid (StressV w w.heap.size (.agg #[.slice (AI k) (ld j.Loads k).In.length (cI k), .slice (AO k) (ld j.Loads k).Out.length (cO k)]) (ld j.Loads k)) := ⟨AI k, cI k, AO k, cO k, rfl, hk0, hk1⟩
      clear hk0 hk1 hld hkl
      have HIN := Lib.hid (fun W (hW : Below w.heap.size w W) => casing_Inside (ld j.Loads k) lo hi _ W (HSV.out.below hW))
      clear HSV
      generalize (ld j.Loads k).In.length = n0 at *
      generalize (ld j.Loads k).Out.length = n1 at *
      obtain ⟨w4, hw4⟩ : ∃ w4, wr.alloc (.cells #[.slice (AI k) n0 (cI k), .slice (AO k) n1 (cO k)] 26) = w4 := ⟨_, rfl⟩
      have hB4 : Below wr.heap.size wr w4 := by rw [← hw4]; exact (Below.refl _ _).alloc (Nat.le_refl _) _
      have e4 : Box w4 wr.heap.size 26 #[.slice (AI k) n0 (cI k), .slice (AO k) n1 (cO k)] := by rw [← hw4]; exact Box.new _ _ _ rfl
      have HW4 := Lib.hid hw4
      clear hw4
      have e0 := (b0.under BW.out).under hB4
      have e1 := (b1.under BW.out).under hB4
      have e2 := (b2.under BW.out).under hB4
      have hBB4 := Lib.hid (BB.out.trans (hB4.mono BB.out.size))
      by_cases hq : g.Burst < needed (inside (ld j.Loads k) lo hi) j.Factor
      · have hfin : Hid (1 = res) := by
          unfold Hid
          rw [← HR.out, why, ← hr.out, hstep.out, decide_eq_true hq]
          rfl
        go_wp2_with fail
        rw [HW4.out]
        have f0 := e4.cell 0
        have f1 := e4.cell 1
        have f2 := e1.cell 0
        have f3 := e1.cell 1
        have f4 := e0.cell 3
        have f5 := e2.cell 0
        simp only [List.getElem?_toArray, List.getElem?_cons_zero, List.getElem?_cons_succ] at f0 f1 f2 f3 f4 f5
        have HE := Lib.hid (show Box w4 wr.heap.size 26 #[.slice (AI k) n0 (cI k), .slice (AO k) n1 (cO k)] ∧ Box w4 w.heap.size 36 _ ∧ Box w4 (w.heap.size + 1) 116 _ ∧ Box w4 (w.heap.size + 1 + 1) 63 _ from ⟨e4, e0, e1, e2⟩)
        clear e4 e0 e1 e2
        go_region_held3 (fun w' => w'.cell? ⟨wr.heap.size, 0, none⟩ = some (.slice (AI k) n0 (cI k)) ∧ w'.cell? ⟨wr.heap.size, 1, none⟩ = some (.slice (AO k) n1 (cO k)) ∧ w'.cell? ⟨w.heap.size + 1, 0, none⟩ = some (.int .i64 lo) ∧ w'.cell? ⟨w.heap.size + 1, 1, none⟩ = some (.int .i64 hi) ∧ w'.cell? ⟨w.heap.size, 3, none⟩ = some (.int .i64 j.Factor) ∧ w'.cell? ⟨w.heap.size + 1 + 1, 0, none⟩ = some (.int .i64 g.Burst)) (first | exact ⟨f0, f1, f2, f3, f4, f5⟩ | exact ⟨x0, x1, x2, x3, x4, x5⟩)
          (first
            | (go_at_call 15; refine (HIN.out _ (hBB4.out.drew)).mono ?_; rintro e w5 ⟨rfl, hb5⟩; have x0 := (HE.out.1.drew.under hb5).cell 0; have x1 := (HE.out.1.drew.under hb5).cell 1; have x2 := (HE.out.2.2.1.drew.under hb5).cell 0; have x3 := (HE.out.2.2.1.drew.under hb5).cell 1; have x4 := (HE.out.2.1.drew.under hb5).cell 3; have x5 := (HE.out.2.2.2.drew.under hb5).cell 0; simp only [List.getElem?_toArray, List.getElem?_cons_zero, List.getElem?_cons_succ] at x0 x1 x2 x3 x4 x5)
            | (go_at_call 19; refine (casing_Needed _ _ _).mono ?_; rintro e w' ⟨rfl, rfl⟩))
        go_wp2_with fail
        go_ret
        exact ⟨ret_int hfin.out, hBB4.out.drew.trans (hb5.mono hBB4.out.size)⟩
      · have hnext := Lib.hid (show (j.Loads.drop (k + 1)).any (fun l => decide (g.Burst < needed (inside l lo hi) j.Factor)) = whyBurst j lo hi g by
          rw [← hr.out, hstep.out, decide_eq_false hq]; rfl)
        go_wp2_with fail
        rw [HW4.out]
        have f0 := e4.cell 0
        have f1 := e4.cell 1
        have f2 := e1.cell 0
        have f3 := e1.cell 1
        have f4 := e0.cell 3
        have f5 := e2.cell 0
        simp only [List.getElem?_toArray, List.getElem?_cons_zero, List.getElem?_cons_succ] at f0 f1 f2 f3 f4 f5
        have HE := Lib.hid (show Box w4 wr.heap.size 26 #[.slice (AI k) n0 (cI k), .slice (AO k) n1 (cO k)] ∧ Box w4 w.heap.size 36 _ ∧ Box w4 (w.heap.size + 1) 116 _ ∧ Box w4 (w.heap.size + 1 + 1) 63 _ from ⟨e4, e0, e1, e2⟩)
        clear e4 e0 e1 e2
        go_region_held3 (fun w' => w'.cell? ⟨wr.heap.size, 0, none⟩ = some (.slice (AI k) n0 (cI k)) ∧ w'.cell? ⟨wr.heap.size, 1, none⟩ = some (.slice (AO k) n1 (cO k)) ∧ w'.cell? ⟨w.heap.size + 1, 0, none⟩ = some (.int .i64 lo) ∧ w'.cell? ⟨w.heap.size + 1, 1, none⟩ = some (.int .i64 hi) ∧ w'.cell? ⟨w.heap.size, 3, none⟩ = some (.int .i64 j.Factor) ∧ w'.cell? ⟨w.heap.size + 1 + 1, 0, none⟩ = some (.int .i64 g.Burst)) (first | exact ⟨f0, f1, f2, f3, f4, f5⟩ | exact ⟨x0, x1, x2, x3, x4, x5⟩)
          (first
            | (go_at_call 15; refine (HIN.out _ (hBB4.out.drew)).mono ?_; rintro e w5 ⟨rfl, hb5⟩; have x0 := (HE.out.1.drew.under hb5).cell 0; have x1 := (HE.out.1.drew.under hb5).cell 1; have x2 := (HE.out.2.2.1.drew.under hb5).cell 0; have x3 := (HE.out.2.2.1.drew.under hb5).cell 1; have x4 := (HE.out.2.1.drew.under hb5).cell 3; have x5 := (HE.out.2.2.2.drew.under hb5).cell 0; simp only [List.getElem?_toArray, List.getElem?_cons_zero, List.getElem?_cons_succ] at x0 x1 x2 x3 x4 x5)
            | (go_at_call 19; refine (casing_Needed _ _ _).mono ?_; rintro e w' ⟨rfl, rfl⟩))
        go_wp2_with fail
        go_roundw
        case rel => exact ⟨k + 1, hlt, by go_num, hnext.out, BW.out.trans ((hB4.drew.trans (hb5.mono hB4.size)).mono BW.out.size)⟩
        case measure => simp [intOf]; omega
    · have hbu : Hid (whyBurst j lo hi g = false) := by
        unfold Hid
        rw [← hr.out, List.drop_eq_nil_of_le (by rw [HNL.out]; omega)]
        rfl
      have e0 := b0.under BW.out
      have e2 := b2.under BW.out
      have r1 := e0.cell 1
      have r21 := e2.cell 1
      have r22 := e2.cell 2
      simp only [List.getElem?_toArray, List.getElem?_cons_zero, List.getElem?_cons_succ] at r1 r21 r22
      by_cases hpl : g.Pull < pull
      · have hfin : Hid (3 = res) := by
          unfold Hid
          rw [← HR.out, why, hbu.out, if_pos hpl]
          rfl
        go_wp2_with fail
        go_ret
        exact ⟨ret_int hfin.out, BB.out⟩
      · obtain ⟨_, ⟨hc0, hc1⟩, ⟨hu0, hu1⟩, _, _⟩ := HF.out
        have hq0 : 0 ≤ 1000 * (g.Pull - pull) / g.Pull := Int.ediv_nonneg (by omega) (by omega)
        have hq1 : 1000 * (g.Pull - pull) / g.Pull ≤ 1000 := Int.ediv_le_of_le_mul (by omega) (by omega)
        have hm0 : 0 ≤ g.Collapse * (1000 * (g.Pull - pull) / g.Pull) := Int.mul_nonneg hc0 hq0
        have hm1 : g.Collapse * (1000 * (g.Pull - pull) / g.Pull) ≤ 68719476736000 := by
          have := Int.mul_le_mul_of_nonneg_left hq1 hc0
          omega
        have hz : (g.Pull == 0) = false := beq_eq_false_iff_ne.2 (by omega)
        go_wp2_with fail
        go_region
        go_wp2_with fail
        clear r1 r21 r22 hm0 hm1 hq0 hq1 hz
        have hwc : Hid (why j lo hi g pull = if whyCollapse j lo hi (g.Collapse * (1000 * (g.Pull - pull) / g.Pull) / 1000) then 2 else 0) := by
          unfold Hid
          rw [why, hbu.out, if_neg (by decide), if_neg (by omega)]
        generalize g.Collapse * (1000 * (g.Pull - pull) / g.Pull) / 1000 = bz at *
        obtain ⟨wo, rfl⟩ : ∃ wo : World, wo = wr := ⟨_, rfl⟩
        have BBo := Lib.hid BB.out
        go_loopw [53] (fun s53 wr => ∃ k : Nat, k ≤ nL ∧ s53 = .int .i64 k ∧ Hid ((j.Loads.drop k).any (fun l => decide (bz < needed (outside l lo hi) j.Factor)) = whyCollapse j lo hi bz) ∧ Hid (Below wo.heap.size wo wr)) (fun s53 _ => nL - (intOf s53).toNat)
        case atStart => exact ⟨0, Nat.zero_le _, rfl, rfl, (Below.refl _ _).drew⟩
        case round =>
          obtain ⟨k2, hk2, rfl, hr2, BW2⟩ := hrel
          have BB2 : Hid (Below w.heap.size w wr) := BBo.out.trans (BW2.out.mono BBo.out.size)
          by_cases hlt2 : k2 < nL
          · have hkl : k2 < j.Loads.length := by rw [HNL.out]; exact hlt2
            obtain ⟨b, off, AI, AO, cI, cO, rfl, hb, hc⟩ := HL.out (by omega)
            obtain ⟨c0, c1, hk0, hk1⟩ := hc k2 hkl
            clear hc
            have d0 := oldCell BB2.out hb c0
            have d1 := oldCell BB2.out hb c1
            clear c0 c1
            have hstep := Lib.hid (any_from (fun l => decide (bz < needed (outside l lo hi) j.Factor)) j.Loads k2 hkl)
            have hld : ld j.Loads k2 = j.Loads[k2] := by simp [ld, hkl]
            rw [← hld] at hstep
            have HSV : Hid (StressV w w.heap.size (.agg #[.slice (AI k2) (ld j.Loads k2).In.length (cI k2), .slice (AO k2) (ld j.Loads k2).Out.length (cO k2)]) (ld j.Loads k2)) := ⟨AI k2, cI k2, AO k2, cO k2, rfl, hk0, hk1⟩
            clear hk0 hk1 hld hkl
            have HIN := Lib.hid (fun W (hW : Below w.heap.size w W) => casing_Outside (ld j.Loads k2) lo hi _ W (HSV.out.below hW))
            clear HSV
            generalize (ld j.Loads k2).In.length = n0 at *
            generalize (ld j.Loads k2).Out.length = n1 at *
            obtain ⟨w4, hw4⟩ : ∃ w4, wr.alloc (.cells #[.slice (AI k2) n0 (cI k2), .slice (AO k2) n1 (cO k2)] 26) = w4 := ⟨_, rfl⟩
            have hB4 : Below wr.heap.size wr w4 := by rw [← hw4]; exact (Below.refl _ _).alloc (Nat.le_refl _) _
            have e4 : Box w4 wr.heap.size 26 #[.slice (AI k2) n0 (cI k2), .slice (AO k2) n1 (cO k2)] := by rw [← hw4]; exact Box.new _ _ _ rfl
            have HW4 := Lib.hid hw4
            clear hw4
            have e0 := ((b0.under BW.out).under BW2.out).under hB4
            have e1 := ((b1.under BW.out).under BW2.out).under hB4
            have e2 := ((b2.under BW.out).under BW2.out).under hB4
            have hBB4 := Lib.hid (BB2.out.trans (hB4.mono BB2.out.size))
            by_cases hq : bz < needed (outside (ld j.Loads k2) lo hi) j.Factor
            · have hfin : Hid (2 = res) := by
                unfold Hid
                rw [← HR.out, hwc.out, ← hr2.out, hstep.out, decide_eq_true hq]
                rfl
              go_wp2_with fail
              rw [HW4.out]
              have f0 := e4.cell 0
              have f1 := e4.cell 1
              have f2 := e1.cell 0
              have f3 := e1.cell 1
              have f4 := e0.cell 3
              simp only [List.getElem?_toArray, List.getElem?_cons_zero, List.getElem?_cons_succ] at f0 f1 f2 f3 f4
              have HE := Lib.hid (show Box w4 wr.heap.size 26 #[.slice (AI k2) n0 (cI k2), .slice (AO k2) n1 (cO k2)] ∧ Box w4 w.heap.size 36 _ ∧ Box w4 (w.heap.size + 1) 116 _ ∧ Box w4 (w.heap.size + 1 + 1) 63 _ from ⟨e4, e0, e1, e2⟩)
              clear e4 e0 e1 e2
              go_region_held3 (fun w' => w'.cell? ⟨wr.heap.size, 0, none⟩ = some (.slice (AI k2) n0 (cI k2)) ∧ w'.cell? ⟨wr.heap.size, 1, none⟩ = some (.slice (AO k2) n1 (cO k2)) ∧ w'.cell? ⟨w.heap.size + 1, 0, none⟩ = some (.int .i64 lo) ∧ w'.cell? ⟨w.heap.size + 1, 1, none⟩ = some (.int .i64 hi) ∧ w'.cell? ⟨w.heap.size, 3, none⟩ = some (.int .i64 j.Factor)) (first | exact ⟨f0, f1, f2, f3, f4⟩ | exact ⟨x0, x1, x2, x3, x4⟩)
                (first
                  | (go_at_call 17; refine (HIN.out _ (hBB4.out.drew)).mono ?_; rintro e w5 ⟨rfl, hb5⟩; have x0 := (HE.out.1.drew.under hb5).cell 0; have x1 := (HE.out.1.drew.under hb5).cell 1; have x2 := (HE.out.2.2.1.drew.under hb5).cell 0; have x3 := (HE.out.2.2.1.drew.under hb5).cell 1; have x4 := (HE.out.2.1.drew.under hb5).cell 3; simp only [List.getElem?_toArray, List.getElem?_cons_zero, List.getElem?_cons_succ] at x0 x1 x2 x3 x4)
                  | (go_at_call 19; refine (casing_Needed _ _ _).mono ?_; rintro e w' ⟨rfl, rfl⟩))
              go_wp2_with fail
              go_ret
              exact ⟨ret_int hfin.out, hBB4.out.drew.trans (hb5.mono hBB4.out.size)⟩
            · have hnext := Lib.hid (show (j.Loads.drop (k2 + 1)).any (fun l => decide (bz < needed (outside l lo hi) j.Factor)) = whyCollapse j lo hi bz by
                rw [← hr2.out, hstep.out, decide_eq_false hq]; rfl)
              go_wp2_with fail
              rw [HW4.out]
              have f0 := e4.cell 0
              have f1 := e4.cell 1
              have f2 := e1.cell 0
              have f3 := e1.cell 1
              have f4 := e0.cell 3
              simp only [List.getElem?_toArray, List.getElem?_cons_zero, List.getElem?_cons_succ] at f0 f1 f2 f3 f4
              have HE := Lib.hid (show Box w4 wr.heap.size 26 #[.slice (AI k2) n0 (cI k2), .slice (AO k2) n1 (cO k2)] ∧ Box w4 w.heap.size 36 _ ∧ Box w4 (w.heap.size + 1) 116 _ ∧ Box w4 (w.heap.size + 1 + 1) 63 _ from ⟨e4, e0, e1, e2⟩)
              clear e4 e0 e1 e2
              go_region_held3 (fun w' => w'.cell? ⟨wr.heap.size, 0, none⟩ = some (.slice (AI k2) n0 (cI k2)) ∧ w'.cell? ⟨wr.heap.size, 1, none⟩ = some (.slice (AO k2) n1 (cO k2)) ∧ w'.cell? ⟨w.heap.size + 1, 0, none⟩ = some (.int .i64 lo) ∧ w'.cell? ⟨w.heap.size + 1, 1, none⟩ = some (.int .i64 hi) ∧ w'.cell? ⟨w.heap.size, 3, none⟩ = some (.int .i64 j.Factor)) (first | exact ⟨f0, f1, f2, f3, f4⟩ | exact ⟨x0, x1, x2, x3, x4⟩)
                (first
                  | (go_at_call 17; refine (HIN.out _ (hBB4.out.drew)).mono ?_; rintro e w5 ⟨rfl, hb5⟩; have x0 := (HE.out.1.drew.under hb5).cell 0; have x1 := (HE.out.1.drew.under hb5).cell 1; have x2 := (HE.out.2.2.1.drew.under hb5).cell 0; have x3 := (HE.out.2.2.1.drew.under hb5).cell 1; have x4 := (HE.out.2.1.drew.under hb5).cell 3; simp only [List.getElem?_toArray, List.getElem?_cons_zero, List.getElem?_cons_succ] at x0 x1 x2 x3 x4)
                  | (go_at_call 19; refine (casing_Needed _ _ _).mono ?_; rintro e w' ⟨rfl, rfl⟩))
              go_wp2_with fail
              go_roundw
              case rel => exact ⟨k2 + 1, hlt2, by go_num, hnext.out, BW2.out.trans ((hB4.drew.trans (hb5.mono hB4.size)).mono BW2.out.size)⟩
              case measure => simp [intOf]; omega
          · have hfin : Hid (0 = res) := by
              unfold Hid
              rw [← HR.out, hwc.out, ← hr2.out, List.drop_eq_nil_of_le (by rw [HNL.out]; omega)]
              rfl
            go_wp2_with fail
            go_ret
            exact ⟨ret_int hfin.out, BB2.out⟩

end Go.Proofs.Ytannipfohicpmaa
