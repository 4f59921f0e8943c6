/- Walks of the reference of layer 5: why a section does not bear. -/
import Derived.Test.YtannipfohicpmaaRefBears
import Derived.Test.YtannipfohicpmaaWhy
import Derived.Test.YtannipfohicpmaaRefExcess
import Derived.Deep.RegionHeld3
import Derived.Deep.DeepCutAuto
namespace Go.Proofs.Ytannipfohicpmaa
open Go.RowKit Go.Shelf Mpl

set_option maxHeartbeats 8000000 in
set_option maxRecDepth 100000 in
theorem ref05_why (j : Job) (i : Nat) (g : Grade) (pull : Int) (v0 : Value) (w : World) (hv : JobV w w.heap.size v0 j) (hg : fairGrade g = true) (hp0 : 0 ≤ pull) (hp1 : pull ≤ 70368744177664) (hn : j.Loads.length ≤ 6) (hi : i < j.Ends.length) (hm : j.Ends.length ≤ 1000) :
    Calls Try.prog 52 #[v0, .int .i64 i, gradeV g, .int .i64 pull] w fun e w' => e = .returned (.int .i64 (why j (top j i) (bottom j i) g pull)) ∧ Below w.heap.size w w' := by
  unfold gradeV
  have HBG := Lib.hid (fun W (hW : Below w.heap.size w W) => ref05_begin j _ i W (hv.below hW) hi hm)
  have hbd : Hid (bottom j i = pick j.Ends i) := rfl
  rw [hbd.out]
  clear hbd
  obtain ⟨AE, cE, AL, cL, AG, cG, rfl, hcap, hE, hL, hG⟩ := hv
  obtain ⟨eb, eo, rfl, heb, hec⟩ := hE (by omega)
  have HEC := Lib.hid (hec i hi)
  have HL := Lib.hid hL
  clear hE hL hG hcap hec
  generalize pick j.Ends i = hi' at *
  generalize top j i = lo at *
  generalize hnE : j.Ends.length = nE at *
  generalize hnL : j.Loads.length = nL at *
  have HNL := Lib.hid hnL
  generalize hnG : j.Grades.length = nG at *
  clear hnE hnL hnG
  have HF := Lib.hid (fair_bounds hg)
  clear hg
  generalize hres : why j lo hi' g pull = res
  have HR := Lib.hid hres
  clear hres
  obtain ⟨w3, hw3⟩ : ∃ w3, (w.alloc (.cells #[.slice (some ⟨eb, eo, none⟩) nE cE, .slice AL nL cL, .slice AG nG cG, .int .i64 j.Factor, .int .i64 j.Over] 36)).alloc (.cells #[.int .i64 g.Burst, .int .i64 g.Collapse, .int .i64 g.Pull, .int .i64 g.Weight, .int .i64 g.Cost] 63) = w3 := ⟨_, rfl⟩
  have b0 : Hid (Box w3 w.heap.size 36 #[.slice (some ⟨eb, eo, none⟩) nE cE, .slice AL nL cL, .slice AG nG cG, .int .i64 j.Factor, .int .i64 j.Over]) := by unfold Hid; rw [← hw3]; exact (Box.new w _ _ rfl).alloc _
  have b2 : Hid (Box w3 (w.heap.size + 1) 63 #[.int .i64 g.Burst, .int .i64 g.Collapse, .int .i64 g.Pull, .int .i64 g.Weight, .int .i64 g.Cost]) := by unfold Hid; rw [← hw3]; exact Box.new _ _ _ (by simp)
  have hB3 : Hid (Below w.heap.size w w3) := by unfold Hid; rw [← hw3]; exact (by repeat (first | exact Below.refl _ _ | assumption | refine Below.setCell ?_ (by first | (simp; done) | (simp; omega)) _ | refine belowDrewN ?_ _ | refine Below.drew ?_ | refine Below.alloc ?_ (by first | (simp; done) | (simp; omega)) _))
  have HW3 := Lib.hid hw3
  clear hw3
  go_enter Try.func52, Try.ntmps52
  go_wp2_with fail
  rw [HW3.out]
  go_loopw [9] (fun s9 wr => ∃ k : Nat, k ≤ nL ∧ s9 = .int .i64 k ∧ Hid ((j.Loads.drop k).any (fun l => decide (g.Burst < needed (inside l lo hi') j.Factor)) = whyBurst j lo hi' g) ∧ Hid (Below w3.heap.size w3 wr)) (fun s9 _ => nL - (intOf s9).toNat)
  case atStart => exact ⟨0, Nat.zero_le _, rfl, rfl, Below.refl _ _⟩
  case round =>
    obtain ⟨k, hk, rfl, hr, BW⟩ := hrel
    have BB : Hid (Below w.heap.size w wr) := hB3.out.trans (BW.out.mono hB3.out.size)
    by_cases hlt : k < nL
    · have hkl : k < j.Loads.length := by rw [HNL.out]; exact hlt
      have t1 : decide (k < nL) = true := decide_eq_true hlt
      obtain ⟨b, off, AI, AO, cI, cO, rfl, hb, hc⟩ := HL.out (by omega)
      obtain ⟨c0, c1, hk0, hk1⟩ := hc k hkl
      clear hc
      have C0 := Lib.hid c0
      have C1 := Lib.hid c1
      clear c0 c1
      have hstep := Lib.hid (any_from (fun l => decide (g.Burst < needed (inside l lo hi') j.Factor)) j.Loads k hkl)
      have hld : ld j.Loads k = j.Loads[k] := by simp [ld, hkl]
      rw [← hld] at hstep
      have HSV : Hid (StressV w w.heap.size (.agg #[.slice (AI k) (ld j.Loads k).In.length (cI k), .slice (AO k) (ld j.Loads k).Out.length (cO k)]) (ld j.Loads k)) := ⟨AI k, cI k, AO k, cO k, rfl, hk0, hk1⟩
      clear hk0 hk1 hld hkl
      have HIN := Lib.hid (fun W (hW : Below w.heap.size w W) => ref05_Inside (ld j.Loads k) lo hi' _ W (HSV.out.below hW))
      clear HSV
      generalize (ld j.Loads k).In.length = n0 at *
      generalize (ld j.Loads k).Out.length = n1 at *
      obtain ⟨p0, p1, p2, p3, p4⟩ := job_box (b0.out.under BW.out)
      go_wp2_with fail
      have d0 := oldCell BB.out hb C0.out
      have d1 := oldCell BB.out hb C1.out
      have d2 := oldCell BB.out heb HEC.out
      have d3 := (b2.out.under BW.out).cell 0
      simp only [List.getElem?_toArray, List.getElem?_cons_zero] at d3
      have z1 : (k : Int) < (nL : Int) := by omega
      have z2 : (i : Int) < (nE : Int) := by omega
      have z3 : (0 : Int) ≤ (k : Int) := by omega
      have z4 : ((k : Int)).toNat = k := by omega
      have z5 : (0 : Int) ≤ (i : Int) := by omega
      have z6 : ((i : Int)).toNat = i := by omega
      go_region_held3 (fun w' => w'.cell? ⟨w.heap.size, 0, none⟩ = some (.slice (some ⟨eb, eo, none⟩) nE cE) ∧ w'.cell? ⟨w.heap.size, 1, none⟩ = some (.slice (some ⟨b, off, none⟩) nL cL) ∧ w'.cell? ⟨w.heap.size, 2, none⟩ = some (.slice AG nG cG) ∧ w'.cell? ⟨w.heap.size, 3, none⟩ = some (.int .i64 j.Factor) ∧ w'.cell? ⟨w.heap.size, 4, none⟩ = some (.int .i64 j.Over) ∧ w'.cell? ⟨b, off + k * 2, none⟩ = some (.slice (AI k) n0 (cI k)) ∧ w'.cell? ⟨b, off + k * 2 + 1, none⟩ = some (.slice (AO k) n1 (cO k)) ∧ w'.cell? ⟨eb, eo + i, none⟩ = some (.int .i64 hi') ∧ w'.cell? ⟨w.heap.size + 1, 0, none⟩ = some (.int .i64 g.Burst))
        (first | exact ⟨p0, p1, p2, p3, p4, d0, d1, d2, d3⟩ | exact ⟨x0, x1, x2, x3, x4, x5, x6, x7, x8⟩ | exact ⟨y0, y1, y2, y3, y4, y5, y6, y7, y8⟩)
        (first
          | (go_at_call 54; refine (HBG.out _ BB.out.drew).mono ?_; rintro e w5 ⟨rfl, hb5⟩; have BW5 := Lib.hid (BW.out.drew.trans (hb5.mono BW.out.drew.size)); have BB5 := Lib.hid (BB.out.drew.trans (hb5.mono BB.out.drew.size)); clear hb5; obtain ⟨x0, x1, x2, x3, x4⟩ := job_box (b0.out.under BW5.out); have x5 := oldCell BB5.out hb C0.out; have x6 := oldCell BB5.out hb C1.out; have x7 := oldCell BB5.out heb HEC.out; have x8 := (b2.out.under BW5.out).cell 0; simp only [List.getElem?_toArray, List.getElem?_cons_zero] at x8)
          | (go_at_call 16; refine (HIN.out _ BB5.out).mono ?_; rintro e w6 ⟨rfl, hb6⟩; have BW6 := Lib.hid (BW5.out.trans (hb6.mono BW5.out.size)); have BB6 := Lib.hid (BB5.out.trans (hb6.mono BB5.out.size)); clear hb6; obtain ⟨y0, y1, y2, y3, y4⟩ := job_box (b0.out.under BW6.out); have y5 := oldCell BB6.out hb C0.out; have y6 := oldCell BB6.out hb C1.out; have y7 := oldCell BB6.out heb HEC.out; have y8 := (b2.out.under BW6.out).cell 0; simp only [List.getElem?_toArray, List.getElem?_cons_zero] at y8)
          | (go_at_call 20; refine (ref05_Needed _ _ _).mono ?_; rintro e w' ⟨rfl, rfl⟩)
          | fail)
      by_cases hq : g.Burst < needed (inside (ld j.Loads k) lo hi') j.Factor
      · have hfin : Hid (1 = res) := by
          unfold Hid
          rw [← HR.out, why, ← hr.out, hstep.out, decide_eq_true hq]
          rfl
        go_wp2_with fail
        go_ret
        exact ⟨ret_int hfin.out, BB6.out⟩
      · have hnext := Lib.hid (show (j.Loads.drop (k + 1)).any (fun l => decide (g.Burst < needed (inside l lo hi') j.Factor)) = whyBurst j lo hi' g by
          rw [← hr.out, hstep.out, decide_eq_false hq]; rfl)
        go_wp2_with fail
        go_roundw
        case rel => exact ⟨k + 1, hlt, by go_num, hnext.out, BW6.out⟩
        case measure => simp [intOf]; omega
    · have hbu : Hid (whyBurst j lo hi' g = false) := by
        unfold Hid
        rw [← hr.out, List.drop_eq_nil_of_le (by rw [HNL.out]; omega)]
        rfl
      have t1 : decide (k < nL) = false := decide_eq_false hlt
      obtain ⟨p0, p1, p2, p3, p4⟩ := job_box (b0.out.under BW.out)
      have r22 := (b2.out.under BW.out).cell 2
      simp only [List.getElem?_toArray, List.getElem?_cons_zero, List.getElem?_cons_succ] at r22
      by_cases hpl : g.Pull < pull
      · have hfin : Hid (3 = res) := by
          unfold Hid
          rw [← HR.out, why, hbu.out, if_pos hpl]
          rfl
        go_wp2_with fail
        go_ret
        exact ⟨ret_int hfin.out, BB.out⟩
      · obtain ⟨_, ⟨hc0, hc1⟩, ⟨hu0, hu1⟩, _, _⟩ := HF.out
        have hq0 : 0 ≤ 1000 * (g.Pull - pull) / g.Pull := Int.ediv_nonneg (by omega) (by omega)
        have hq1 : 1000 * (g.Pull - pull) / g.Pull ≤ 1000 := Int.ediv_le_of_le_mul (by omega) (by omega)
        have hm0 : 0 ≤ g.Collapse * (1000 * (g.Pull - pull) / g.Pull) := Int.mul_nonneg hc0 hq0
        have hm1 : g.Collapse * (1000 * (g.Pull - pull) / g.Pull) ≤ 68719476736000 := by
          have := Int.mul_le_mul_of_nonneg_left hq1 hc0
          omega
        have hz : (g.Pull == 0) = false := beq_eq_false_iff_ne.2 (by omega)
        go_wp2_with fail
        clear p0 p1 p2 p3 p4 r22 hz
        have hwc : Hid (why j lo hi' g pull = if whyCollapse j lo hi' (g.Collapse * (1000 * (g.Pull - pull) / g.Pull) / 1000) then 2 else 0) := by
          unfold Hid
          rw [why, hbu.out, if_neg (by decide), if_neg (by omega)]
        generalize 1000 * (g.Pull - pull) / g.Pull = share at *
        obtain ⟨wo, rfl⟩ : ∃ wo : World, wo = wr := ⟨_, rfl⟩
        have BBo := Lib.hid BB.out
        go_loopw [11] (fun s11 wr => ∃ k : Nat, k ≤ nL ∧ s11 = .int .i64 k ∧ Hid ((j.Loads.drop k).any (fun l => decide (g.Collapse * share / 1000 < needed (outside l lo hi') j.Factor)) = whyCollapse j lo hi' (g.Collapse * share / 1000)) ∧ Hid (Below wo.heap.size wo wr)) (fun s11 _ => nL - (intOf s11).toNat)
        case atStart => exact ⟨0, Nat.zero_le _, rfl, rfl, Below.refl _ _⟩
        case round =>
          obtain ⟨k2, hk2, rfl, hr2, BV⟩ := hrel
          have BW2 := Lib.hid (BW.out.trans (BV.out.mono BW.out.size))
          have BB2 : Hid (Below w.heap.size w wr) := BBo.out.trans (BV.out.mono BBo.out.size)
          by_cases hlt2 : k2 < nL
          · have hkl : k2 < j.Loads.length := by rw [HNL.out]; exact hlt2
            have t2 : decide (k2 < nL) = true := decide_eq_true hlt2
            obtain ⟨b, off, AI, AO, cI, cO, rfl, hb, hc⟩ := HL.out (by omega)
            obtain ⟨c0, c1, hk0, hk1⟩ := hc k2 hkl
            clear hc
            have C0 := Lib.hid c0
            have C1 := Lib.hid c1
            clear c0 c1
            have hstep := Lib.hid (any_from (fun l => decide (g.Collapse * share / 1000 < needed (outside l lo hi') j.Factor)) j.Loads k2 hkl)
            have hld : ld j.Loads k2 = j.Loads[k2] := by simp [ld, hkl]
            rw [← hld] at hstep
            have HSV : Hid (StressV w w.heap.size (.agg #[.slice (AI k2) (ld j.Loads k2).In.length (cI k2), .slice (AO k2) (ld j.Loads k2).Out.length (cO k2)]) (ld j.Loads k2)) := ⟨AI k2, cI k2, AO k2, cO k2, rfl, hk0, hk1⟩
            clear hk0 hk1 hld hkl
            have HIN := Lib.hid (fun W (hW : Below w.heap.size w W) => ref05_Outside (ld j.Loads k2) lo hi' _ W (HSV.out.below hW))
            clear HSV
            generalize (ld j.Loads k2).In.length = n0 at *
            generalize (ld j.Loads k2).Out.length = n1 at *
            obtain ⟨p0, p1, p2, p3, p4⟩ := job_box (b0.out.under BW2.out)
            go_wp2_with fail
            have d0 := oldCell BB2.out hb C0.out
            have d1 := oldCell BB2.out hb C1.out
            have d2 := oldCell BB2.out heb HEC.out
            have d3 := (b2.out.under BW2.out).cell 1
            simp only [List.getElem?_toArray, List.getElem?_cons_zero, List.getElem?_cons_succ] at d3
            have z1 : (k2 : Int) < (nL : Int) := by omega
            have z2 : (i : Int) < (nE : Int) := by omega
            have z3 : (0 : Int) ≤ (k2 : Int) := by omega
            have z4 : ((k2 : Int)).toNat = k2 := by omega
            have z5 : (0 : Int) ≤ (i : Int) := by omega
            have z6 : ((i : Int)).toNat = i := by omega
            have z7 : IntKind.i64.wrap (g.Collapse * share) = g.Collapse * share := IntWalk.i64_in _ (by omega)
            have z8 : IntKind.i64.wrap ((g.Collapse * share).tdiv 1000) = g.Collapse * share / 1000 := by rw [Int.tdiv_eq_ediv_of_nonneg hm0]; exact IntWalk.i64_in _ (by omega)
            go_region_held3 (fun w' => w'.cell? ⟨w.heap.size, 0, none⟩ = some (.slice (some ⟨eb, eo, none⟩) nE cE) ∧ w'.cell? ⟨w.heap.size, 1, none⟩ = some (.slice (some ⟨b, off, none⟩) nL cL) ∧ w'.cell? ⟨w.heap.size, 2, none⟩ = some (.slice AG nG cG) ∧ w'.cell? ⟨w.heap.size, 3, none⟩ = some (.int .i64 j.Factor) ∧ w'.cell? ⟨w.heap.size, 4, none⟩ = some (.int .i64 j.Over) ∧ w'.cell? ⟨b, off + k2 * 2, none⟩ = some (.slice (AI k2) n0 (cI k2)) ∧ w'.cell? ⟨b, off + k2 * 2 + 1, none⟩ = some (.slice (AO k2) n1 (cO k2)) ∧ w'.cell? ⟨eb, eo + i, none⟩ = some (.int .i64 hi') ∧ w'.cell? ⟨w.heap.size + 1, 1, none⟩ = some (.int .i64 g.Collapse))
              (first | exact ⟨p0, p1, p2, p3, p4, d0, d1, d2, d3⟩ | exact ⟨x0, x1, x2, x3, x4, x5, x6, x7, x8⟩ | exact ⟨y0, y1, y2, y3, y4, y5, y6, y7, y8⟩)
              (first
                | (go_at_call 54; refine (HBG.out _ BB2.out.drew).mono ?_; rintro e w5 ⟨rfl, hb5⟩; have BV5 := Lib.hid (BV.out.drew.trans (hb5.mono BV.out.drew.size)); have BW5 := Lib.hid (BW2.out.drew.trans (hb5.mono BW2.out.drew.size)); have BB5 := Lib.hid (BB2.out.drew.trans (hb5.mono BB2.out.drew.size)); clear hb5; obtain ⟨x0, x1, x2, x3, x4⟩ := job_box (b0.out.under BW5.out); have x5 := oldCell BB5.out hb C0.out; have x6 := oldCell BB5.out hb C1.out; have x7 := oldCell BB5.out heb HEC.out; have x8 := (b2.out.under BW5.out).cell 1; simp only [List.getElem?_toArray, List.getElem?_cons_zero, List.getElem?_cons_succ] at x8)
                | (go_at_call 18; refine (HIN.out _ BB5.out).mono ?_; rintro e w6 ⟨rfl, hb6⟩; have BV6 := Lib.hid (BV5.out.trans (hb6.mono BV5.out.size)); have BW6 := Lib.hid (BW5.out.trans (hb6.mono BW5.out.size)); have BB6 := Lib.hid (BB5.out.trans (hb6.mono BB5.out.size)); clear hb6; obtain ⟨y0, y1, y2, y3, y4⟩ := job_box (b0.out.under BW6.out); have y5 := oldCell BB6.out hb C0.out; have y6 := oldCell BB6.out hb C1.out; have y7 := oldCell BB6.out heb HEC.out; have y8 := (b2.out.under BW6.out).cell 1; simp only [List.getElem?_toArray, List.getElem?_cons_zero, List.getElem?_cons_succ] at y8)
                | (go_at_call 20; refine (ref05_Needed _ _ _).mono ?_; rintro e w' ⟨rfl, rfl⟩)
                | fail)
            by_cases hq : g.Collapse * share / 1000 < needed (outside (ld j.Loads k2) lo hi') j.Factor
            · have hfin : Hid (2 = res) := by
                unfold Hid
                rw [← HR.out, hwc.out, ← hr2.out, hstep.out, decide_eq_true hq]
                rfl
              go_wp2_with fail
              go_ret
              exact ⟨ret_int hfin.out, BB6.out⟩
            · have hnext := Lib.hid (show (j.Loads.drop (k2 + 1)).any (fun l => decide (g.Collapse * share / 1000 < needed (outside l lo hi') j.Factor)) = whyCollapse j lo hi' (g.Collapse * share / 1000) by
                rw [← hr2.out, hstep.out, decide_eq_false hq]; rfl)
              go_wp2_with fail
              go_roundw
              case rel => exact ⟨k2 + 1, hlt2, by go_num, hnext.out, BV6.out⟩
              case measure => simp [intOf]; omega
          · have hfin : Hid (0 = res) := by
              unfold Hid
              rw [← HR.out, hwc.out, ← hr2.out, List.drop_eq_nil_of_le (by rw [HNL.out]; omega)]
              rfl
            have t2 : decide (k2 < nL) = false := decide_eq_false hlt2
            obtain ⟨p0, p1, p2, p3, p4⟩ := job_box (b0.out.under BW2.out)
            go_wp2_with fail
            go_ret
            exact ⟨ret_int hfin.out, BB2.out⟩

end Go.Proofs.Ytannipfohicpmaa
