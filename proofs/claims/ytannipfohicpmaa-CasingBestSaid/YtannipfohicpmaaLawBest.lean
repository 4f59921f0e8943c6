/- The law CasingBest, walked. -/
import Derived.Test.YtannipfohicpmaaBest
import Derived.Test.YtannipfohicpmaaChoose2
namespace Go.Proofs.Ytannipfohicpmaa
open Go.RowKit Go.Shelf Mpl

set_option maxHeartbeats 8000000 in
set_option maxRecDepth 100000 in
theorem walk_CasingBest (x : Sheet) (v0 : Value) (u : List Int) (AU : Option Addr) (cU : Nat) (w : World) (hv : SheetV w w.heap.size v0 x) (hin : SheetIn x) (hU : Ints w w.heap.size AU u) (hUin : IntsIn u) (_hUc : u.length ≤ cU) (hUm : cU ≤ maxLen) :
    Calls Try.prog 9 #[v0, .slice AU u.length cU] w fun e w' => e = .returned (.bool true) ∧ Below w.heap.size w w' := by
  have HJ := Lib.hid (fun W (hW : Below w.heap.size w W) => kit_Job x v0 W (hv.up hW hW.size) hin)
  obtain ⟨AE, cE, AL, cL, AG, cG, rfl, _, _, _⟩ := hv
  have HB0 := Lib.hid ((Below.refl w.heap.size w).alloc (Nat.le_refl _) (.cells #[.slice AE x.Ends.length cE, .slice AL x.Loads.length cL, .slice AG x.Grades.length cG, .int .i64 x.Factor, .int .i64 x.Over] 48))
  have HU := Lib.hid hU
  have HUI := Lib.hid hUin
  unfold maxLen at hUm
  clear hin hU hUin
  generalize hnu : u.length = nu at *
  have HNU := Lib.hid hnu
  clear hnu
  generalize x.Ends.length = nE0 at *
  generalize x.Loads.length = nL0 at *
  generalize x.Grades.length = nG0 at *
  go_enter Try.func9, Try.ntmps9
  go_wp2_with fail
  refine (HJ.out _ HB0.out).mono ?_
  rintro e w1 ⟨⟨v, j, rfl, hjv, hmade⟩, hb1⟩
  have hB1 := HB0.out.trans (hb1.mono HB0.out.size)
  have HJV := Lib.hid hjv
  obtain ⟨aE, eE, aL, eL, aG, eG, rfl, _, _, _, _⟩ := hjv
  have G := Lib.hid (checkJob_good hmade.ok)
  have hn1 := hmade.ends
  have hn2 := G.out.ends.pos
  have hg1 := hmade.grades
  have hg2 := G.out.gpos
  have HM := Lib.hid hmade
  clear hb1 hmade HJ HB0
  have HBE := Lib.hid (fun l A c W (hW : Below w1.heap.size w1 W) (hl : Ints W W.heap.size A l) (hlen : l.length = j.Ends.length) => casing_Bears j l _ A c W (HJV.out.below hW) hl (by omega))
  have HCO := Lib.hid (fun l A c W (hW : Below w1.heap.size w1 W) (hl : Ints W W.heap.size A l) (hlen : l.length = j.Ends.length) => casing_Cost j l _ A c W (HJV.out.below hW) hl (by omega))
  have HCS := Lib.hid (fun W (hW : Below w1.heap.size w1 W) => casing_Choose j _ W (HJV.out.below hW))
  have HCH := Lib.hid (fun l (h2 : l.length = j.Ends.length) h3 => isChoice_of (j := j) (l := l) HM.out.ok h2 h3)
  generalize hnE : j.Ends.length = nE at *
  generalize j.Loads.length = nL at *
  generalize hnG : j.Grades.length = nG at *
  have HNE := Lib.hid hnE
  have HNG := Lib.hid hnG
  clear hnE hnG
  obtain ⟨w2, hw2⟩ : ∃ w2, w1.alloc (.cells #[.slice aE nE eE, .slice aL nL eL, .slice aG nG eG, .int .i64 j.Factor, .int .i64 j.Over] 36) = w2 := ⟨_, rfl⟩
  have b0 : Box w2 w1.heap.size 36 #[.slice aE nE eE, .slice aL nL eL, .slice aG nG eG, .int .i64 j.Factor, .int .i64 j.Over] := by rw [← hw2]; exact Box.new _ _ _ rfl
  have hB2 : Below w1.heap.size w1 w2 := by rw [← hw2]; exact (by repeat (first | exact Below.refl _ _ | assumption | refine Below.setCell ?_ (by first | (simp; done) | (simp; omega)) _ | refine belowDrewN ?_ _ | refine Below.drew ?_ | refine Below.alloc ?_ (by first | (simp; done) | (simp; omega)) _))
  have HW2 := Lib.hid hw2
  have Hb0 := Lib.hid b0
  have HB2 := Lib.hid hB2
  have HB1 := Lib.hid hB1
  clear hw2 b0 hB2 hB1
  obtain ⟨i0, hi0, hz0, hz1, hz2⟩ := info_parts info_int
  go_wp2_with fail
  rw [HW2.out]
  go_loopw [6, 7] (fun s6 s7 wr => ∃ (k : Nat) (l : List Int), k ≤ nE ∧ s7 = .int .i64 k ∧ Hid (l.length = k ∧ GradesSo l nG) ∧ Hid (wr.ownsRow w2.heap.size 3 1 s6 k (l.map (Value.int .i64))) ∧ Hid (Below w2.heap.size w2 wr)) (fun _ s7 _ => nE - (intOf s7).toNat)
  case atStart => exact ⟨0, [], Nat.zero_le _, rfl, ⟨rfl, GradesSo.nil _⟩, World.ownsRow_nil _ _ _ _, Below.refl _ _⟩
  case round =>
    obtain ⟨k, l, hk, rfl, hl, hown, BW⟩ := hrel
    have hsw := BW.out.size
    have q0 := (Hb0.out.under BW.out).cell 0
    simp only [List.getElem?_toArray, List.getElem?_cons_zero] at q0
    by_cases hlt : k < nE
    · have HMO := Lib.hid (fun W y (hy : inI64 y) => kit_Mod y (nG : Int) W hy (by omega) (by omega))
      have hm0 := Lib.hid (fun y => Int.emod_nonneg y (show (nG : Int) ≠ 0 by omega))
      have hm1 := Lib.hid (fun y => Int.emod_lt_of_pos y (show (0 : Int) < (nG : Int) by omega))
      by_cases hu0 : nu = 0
      · have d0 : decide ((0 : Int) < (nu : Int)) = false := decide_eq_false (by omega)
        have d1 : decide (0 < nu) = false := decide_eq_false (by omega)
        clear hu0
        have q2 := (Hb0.out.under BW.out).cell 2
        simp only [List.getElem?_toArray, List.getElem?_cons_zero, List.getElem?_cons_succ] at q2
        go_wp2_with fail
        refine (HMO.out _ (k : Int) ⟨by omega, by omega⟩).mono ?_
        rintro e w' ⟨rfl, rfl⟩
        have g0 := hm0.out (k : Int)
        have g1 := hm1.out (k : Int)
        generalize (k : Int) % (nG : Int) = g at *
        go_wp2_with (at_builtin; refine wpList_append_own _ rfl _ _ 37 rfl w2.heap.size 3 i0 (.int .i64 0) 1 8 Try.underlying37 hi0 hz0 hz1 hz2 rfl (by decide) _ _ _ rfl (hown.out.alloc _) ⟨wr.heap.size, 0, none⟩ 1 1 [.int .i64 g] rfl rfl ?_ ?_ ?_ ?_ ?_ ?_)
        · exact cells_new wr [.int .i64 g] 3
        · simp [Value.oneCell']
        · unfold maxLen; omega
        · omega
        · simp; omega
        intro v' w3 hown3 hg3 _
        have HO3 := Lib.hid hown3
        have HB3 := Lib.hid (below_grown (BW.out.alloc hsw _) (hown.out.alloc _) hg3 (by simp; omega))
        clear hown3 hg3 q0 q2
        go_wp2_with fail
        go_roundw
        case rel => exact ⟨k + 1, l ++ [g], hlt, by go_num, ⟨by rw [List.length_append, hl.out.1]; rfl, hl.out.2.snoc g0 g1⟩, by unfold Hid; rw [List.map_append]; simpa using HO3.out, HB3.out⟩
        case measure => simp [intOf]; omega
      · have d0 : decide ((0 : Int) < (nu : Int)) = true := decide_eq_true (by omega)
        have d1 : decide (0 < nu) = true := decide_eq_true (by omega)
        have hmod : k % nu < nu := Nat.mod_lt _ (by omega)
        have q2 := (Hb0.out.under BW.out).cell 2
        simp only [List.getElem?_toArray, List.getElem?_cons_zero, List.getElem?_cons_succ] at q2
        obtain ⟨bu, ou, rfl, hbu, hcu⟩ := HU.out (by rw [HNU.out]; omega)
        have hbw : Below w.heap.size w wr := (HB1.out.trans (HB2.out.mono HB1.out.size)).trans (BW.out.mono (HB1.out.trans (HB2.out.mono HB1.out.size)).size)
        have c0 := oldCell hbw hbu (hcu (k % nu) (by rw [HNU.out]; exact hmod))
        generalize pick u (k % nu) = y at *
        go_wp2_with fail
        have hk5 : k ≤ 5 := by omega
        have hdv : 0 ≤ (k : Int) / (nu : Int) ∧ (k : Int) / (nu : Int) ≤ 5 := by
          have h1 := Int.ediv_nonneg (show 0 ≤ (k : Int) by omega) (show 0 ≤ (nu : Int) by omega)
          have h2 := Int.ediv_le_self (nu : Int) (show 0 ≤ (k : Int) by omega)
          omega
        have z1 : IntKind.i64.wrap ((k : Int) % (nu : Int)) = (k : Int) % (nu : Int) := IntWalk.i64_in _ (by omega)
        have z2 : (0 : Int) ≤ (k : Int) % (nu : Int) := by omega
        have z3 : ((k : Int) % (nu : Int)).toNat = k % nu := by omega
        have z4 : (k : Int) % (nu : Int) < (nu : Int) := by omega
        have z5 : ((nu : Int) == 0) = false := beq_eq_false_iff_ne.2 (by omega)
        have z6 : ((1 + (k : Int) / (nu : Int)) == 0) = false := beq_eq_false_iff_ne.2 (by omega)
        have z7 : IntKind.i64.wrap (1 + (k : Int) / (nu : Int)) = 1 + (k : Int) / (nu : Int) := IntWalk.i64_in _ (by omega)
        have z8 : IntKind.i64.wrap ((k : Int) / (nu : Int)) = (k : Int) / (nu : Int) := IntWalk.i64_in _ (by omega)
        go_quiet (fail)
        go_wp2_with fail
        refine (HMO.out _ _ (wrap_in _)).mono ?_
        rintro e w' ⟨rfl, rfl⟩
        have g0 := hm0.out (wrap64 (y.tdiv (1 + (k : Int) / (nu : Int))))
        have g1 := hm1.out (wrap64 (y.tdiv (1 + (k : Int) / (nu : Int))))
        generalize wrap64 (y.tdiv (1 + (k : Int) / (nu : Int))) % (nG : Int) = g at *
        clear z1 z2 z3 z4 z5 z6 z7 z8
        go_wp2_with (at_builtin; refine wpList_append_own _ rfl _ _ 37 rfl w2.heap.size 3 i0 (.int .i64 0) 1 8 Try.underlying37 hi0 hz0 hz1 hz2 rfl (by decide) _ _ _ rfl ((own_drewN hown.out nq).alloc _) ⟨(wr.drewN nq).heap.size, 0, none⟩ 1 1 [.int .i64 g] rfl rfl ?_ ?_ ?_ ?_ ?_ ?_)
        · exact cells_new (wr.drewN nq) [.int .i64 g] 3
        · simp [Value.oneCell']
        · unfold maxLen; omega
        · omega
        · simp; omega
        intro v' w3 hown3 hg3 _
        have HO3 := Lib.hid hown3
        have HB3 := Lib.hid (below_grown ((belowDrewN BW.out nq).alloc hsw _) ((own_drewN hown.out nq).alloc _) hg3 (by simp; omega))
        clear hown3 hg3 q0 q2
        go_wp2_with fail
        go_roundw
        case rel => exact ⟨k + 1, l ++ [g], hlt, by go_num, ⟨by rw [List.length_append, hl.out.1]; rfl, hl.out.2.snoc g0 g1⟩, by unfold Hid; rw [List.map_append]; simpa using HO3.out, HB3.out⟩
        case measure => simp [intOf]; omega
    · obtain rfl : k = nE := by omega
      obtain ⟨A', c', rfl, _, hI⟩ := Ints.own hown.out
      have hch := HCH.out l hl.out.1 hl.out.2
      have HI := Lib.hid hI
      have BX := Lib.hid (Hb0.out.under BW.out)
      have B3 := Lib.hid (HB2.out.trans (BW.out.mono HB2.out.size))
      have HLEN := Lib.hid hl.out.1
      have HCHO := Lib.hid hch
      have BL := Lib.hid (HB1.out.trans (B3.out.mono HB1.out.size))
      clear hI hch hown hlt hk hl q0 HCH HU HUI HNU
      have q1 := BX.out.cell 1
      have q2 := BX.out.cell 2
      have q3 := BX.out.cell 3
      have q4 := BX.out.cell 4
      have q0 := BX.out.cell 0
      simp only [List.getElem?_toArray, List.getElem?_cons_zero, List.getElem?_cons_succ] at q0 q1 q2 q3 q4
      rw [HLEN.out]
      have HBL := Lib.hid (fun W (hW : Below w1.heap.size w1 W) (hi : Ints W W.heap.size A' l) => HBE.out l A' c' W hW hi HLEN.out)
      rw [HLEN.out] at HBL
      have hbs : bears j l = ((bearsFrom j l 0 l.length).1, (bearsFrom j l 0 l.length).2, 0) := by
        unfold bears
        rw [if_neg (by simp [HM.out.ok]), HCHO.out]
        rfl
      rw [hbs] at HBL
      by_cases hB : Bear j l
      · have hbe := (bear_iff j l).1 hB
        rw [hbe] at HBL
        obtain ⟨r, hr⟩ : ∃ r, chooseOf j = some r := by
          cases h : chooseOf j with
          | none => exact absurd hB (choose_none HM.out.ok h l HCHO.out)
          | some r => exact ⟨r, rfl⟩
        obtain ⟨hr1, hr2, hr3⟩ := choose_some HM.out.ok hr
        have hle := hr3 l HCHO.out hB
        have hrl : r.length = k := by
          have := (isChoice_chosen hr1).same
          rw [HNE.out] at this
          exact this
        have hcl : cost j l = sumCost j l := by unfold cost; rw [if_pos HCHO.out]; rfl
        have hcr : cost j r = sumCost j r := by unfold cost; rw [if_pos hr1]; rfl
        have hbr := (bear_iff j r).1 hr2
        have hbsr : bears j r = (-1, 0, 0) := by
          unfold bears
          rw [if_neg (by simp [HM.out.ok]), hr1, hbr]
          rfl
        have HCL := Lib.hid (fun W (hW : Below w1.heap.size w1 W) (hi : Ints W W.heap.size A' l) => HCO.out l A' c' W hW hi HLEN.out)
        have HCR := Lib.hid (fun A c W (hW : Below w1.heap.size w1 W) (hi : Ints W W.heap.size A r) => HCO.out r A c W hW hi hrl)
        have HBR := Lib.hid (fun A c W (hW : Below w1.heap.size w1 W) (hi : Ints W W.heap.size A r) => HBE.out r A c W hW hi hrl)
        rw [hcl, HLEN.out] at HCL
        rw [hcr, hrl] at HCR
        rw [hbsr, hrl] at HBR
        have hd : decide (sumCost j l < sumCost j r) = false := decide_eq_false (by omega)
        have HCS2 := Lib.hid (fun W hW => HCS.out W hW)
        have HRL := Lib.hid hrl
        have HRR := Lib.hid hr
        clear hB hbe hr hr1 hr2 hr3 hle hrl hcl hcr hbr hbsr hbs HCS
        generalize sumCost j l = cl at *
        generalize sumCost j r = cr at *
        go_wp2_with fail
        refine (HCS2.out wr B3.out).mono ?_
        rintro e w4 ⟨hres, hb4⟩
        rw [HRR.out] at hres
        obtain ⟨A4, c4, rfl, hI4⟩ := hres
        rw [HRL.out]
        have HI4 := Lib.hid hI4
        clear hI4 HCS2
        replace BX := Lib.hid (BX.out.under hb4)
        replace HI := Lib.hid (HI.out.up hb4 hb4.size)
        replace B3 := Lib.hid (B3.out.trans (hb4.mono B3.out.size))
        replace BL := Lib.hid (BL.out.trans (hb4.mono BL.out.size))
        clear hb4 q0 q1 q2 q3 q4
        have q0 := BX.out.cell 0
        have q1 := BX.out.cell 1
        have q2 := BX.out.cell 2
        have q3 := BX.out.cell 3
        have q4 := BX.out.cell 4
        simp only [List.getElem?_toArray, List.getElem?_cons_zero, List.getElem?_cons_succ] at q0 q1 q2 q3 q4
        go_wp2_with fail
        refine (HBL.out w4 B3.out HI.out).mono ?_
        rintro e w5 ⟨rfl, hb5⟩
        replace BX := Lib.hid (BX.out.under hb5)
        replace HI := Lib.hid (HI.out.up hb5 hb5.size)
        replace HI4 := Lib.hid (HI4.out.up hb5 hb5.size)
        replace B3 := Lib.hid (B3.out.trans (hb5.mono B3.out.size))
        replace BL := Lib.hid (BL.out.trans (hb5.mono BL.out.size))
        clear hb5 q0 q1 q2 q3 q4
        have q0 := BX.out.cell 0
        have q1 := BX.out.cell 1
        have q2 := BX.out.cell 2
        have q3 := BX.out.cell 3
        have q4 := BX.out.cell 4
        simp only [List.getElem?_toArray, List.getElem?_cons_zero, List.getElem?_cons_succ] at q0 q1 q2 q3 q4
        go_wp2_with fail
        have D4 : Hid (Ints w5.drew w5.drew.heap.size A4 r) := HI4.out
        have D3 : Hid (Ints w5.drew w5.drew.heap.size A' l) := HI.out
        go_region_held3 (fun w' => w'.cell? ⟨w1.heap.size, 0, none⟩ = some (.slice aE k eE) ∧ w'.cell? ⟨w1.heap.size, 1, none⟩ = some (.slice aL nL eL) ∧ w'.cell? ⟨w1.heap.size, 2, none⟩ = some (.slice aG nG eG) ∧ w'.cell? ⟨w1.heap.size, 3, none⟩ = some (.int .i64 j.Factor) ∧ w'.cell? ⟨w1.heap.size, 4, none⟩ = some (.int .i64 j.Over))
          (first | exact ⟨q0, q1, q2, q3, q4⟩ | exact ⟨x0, x1, x2, x3, x4⟩ | exact ⟨y0, y1, y2, y3, y4⟩)
          (first
            | (go_at_call 27; (with_reducible refine (HCR.out A4 c4 _ B3.out.drew D4.out).mono ?_); rintro e w6 ⟨rfl, hb6⟩; have B6 := Lib.hid (B3.out.drew.trans (hb6.mono B3.out.drew.size)); have X6 := Lib.hid (BX.out.drew.under hb6); have x0 := X6.out.cell 0; have x1 := X6.out.cell 1; have x2 := X6.out.cell 2; have x3 := X6.out.cell 3; have x4 := X6.out.cell 4; have I6 := Lib.hid (D3.out.up hb6 hb6.size); have I46 := Lib.hid (D4.out.up hb6 hb6.size); have L6 := Lib.hid (BL.out.drew.trans (hb6.mono BL.out.drew.size)); simp only [List.getElem?_toArray, List.getElem?_cons_zero, List.getElem?_cons_succ] at x0 x1 x2 x3 x4)
            | (go_at_call 27; (with_reducible refine (HCL.out _ B6.out I6.out).mono ?_); rintro e w7 ⟨rfl, hb7⟩; have B7 := Lib.hid (B6.out.trans (hb7.mono B6.out.size)); have X7 := Lib.hid (X6.out.under hb7); have y0 := X7.out.cell 0; have y1 := X7.out.cell 1; have y2 := X7.out.cell 2; have y3 := X7.out.cell 3; have y4 := X7.out.cell 4; have I47 := Lib.hid (I46.out.up hb7 hb7.size); have L7 := Lib.hid (L6.out.trans (hb7.mono L6.out.size)); simp only [List.getElem?_toArray, List.getElem?_cons_zero, List.getElem?_cons_succ] at y0 y1 y2 y3 y4)
            | fail)
        clear q0 q1 q2 q3 q4 x0 x1 x2 x3 x4
        go_wp2_with fail
        refine (HBR.out A4 c4 w7 B7.out I47.out).mono ?_
        rintro e w8 ⟨rfl, hb8⟩
        replace L7 := Lib.hid (L7.out.trans (hb8.mono L7.out.size))
        go_wp2_with fail
        refine (law05_awake _).mono ?_
        rintro e w9 ⟨rfl, hb9⟩
        go_wp2_with fail
        go_ret
        exact ⟨rfl, L7.out.trans (hb9.mono L7.out.size)⟩
      · obtain ⟨t, ht1, ht2, ht3⟩ : ∃ t : Nat, t < k ∧ whyAt j l t ≠ 0 ∧ bearsFrom j l 0 l.length = ((t : Int), whyAt j l t) := by
          rcases bears_shape j l 0 l.length with ⟨h, _⟩ | ⟨t, _, h2, h3, h4⟩
          · exact absurd ((bear_iff j l).2 h) hB
          · exact ⟨t, by rw [HLEN.out] at h2; omega, h3, h4⟩
        have hwr := why_range j (top j t) (bottom j t) (grade j (pick l t)) (pullOf j l t)
        have hwe : Hid (whyAt j l t = why j (top j t) (bottom j t) (grade j (pick l t)) (pullOf j l t)) := rfl
        rw [← hwe.out] at hwr
        rw [ht3] at HBL
        dsimp only at HBL
        clear ht3 hbs hwe hB HBE HCO
        generalize whyAt j l t = wy at *
        have e1 : decide ((t : Int) < -1) = false := decide_eq_false (by omega)
        have e2 : decide ((k : Int) ≤ (t : Int)) = false := decide_eq_false (by omega)
        have e2' : decide (k ≤ t) = false := decide_eq_false (by omega)
        have e3 : ((t : Int) == -1) = false := beq_eq_false_iff_ne.2 (by omega)
        have e4 : (wy == 0) = false := beq_eq_false_iff_ne.2 ht2
        have e5 : decide (wy < 0) = false := decide_eq_false (by omega)
        have e6 : decide (3 < wy) = false := decide_eq_false (by omega)
        have e7 : decide ((0 : Int) ≤ (t : Int)) = true := decide_eq_true (by omega)
        clear ht2
        have hchs := Lib.hid (show ∃ o : Option (List Int), chooseOf j = o from ⟨_, rfl⟩)
        obtain ⟨o, ho⟩ := hchs.out
        have HO := Lib.hid ho
        clear ho hchs
        go_wp2_with fail
        refine (HCS.out wr B3.out).mono ?_
        rintro e w4 ⟨hres, hb4⟩
        have hval : ∃ (A4 : Option Addr) (n4 c4 : Nat) (b4 : Bool), e = .returned (.tuple #[.slice A4 n4 c4, .bool b4]) := by
          cases h : chooseOf j with
          | none => rw [h] at hres; exact ⟨none, 0, 0, false, hres⟩
          | some r => rw [h] at hres; obtain ⟨A4, c4, h4, _⟩ := hres; exact ⟨A4, r.length, c4, true, h4⟩
        obtain ⟨A4, n4, c4, b4, rfl⟩ := hval
        replace BX := Lib.hid (BX.out.under hb4)
        replace HI := Lib.hid (HI.out.up hb4 hb4.size)
        replace B3 := Lib.hid (B3.out.trans (hb4.mono B3.out.size))
        replace BL := Lib.hid (BL.out.trans (hb4.mono BL.out.size))
        clear hb4 q0 q1 q2 q3 q4 hres
        have q0 := BX.out.cell 0
        have q1 := BX.out.cell 1
        have q2 := BX.out.cell 2
        have q3 := BX.out.cell 3
        have q4 := BX.out.cell 4
        simp only [List.getElem?_toArray, List.getElem?_cons_zero, List.getElem?_cons_succ] at q0 q1 q2 q3 q4
        go_wp2_with fail
        refine (HBL.out w4 B3.out HI.out).mono ?_
        rintro e w5 ⟨rfl, hb5⟩
        replace BX := Lib.hid (BX.out.under hb5)
        replace BL := Lib.hid (BL.out.trans (hb5.mono BL.out.size))
        clear hb5 q0 q1 q2 q3 q4
        have q0 := BX.out.cell 0
        have q1 := BX.out.cell 1
        have q2 := BX.out.cell 2
        have q3 := BX.out.cell 3
        have q4 := BX.out.cell 4
        simp only [List.getElem?_toArray, List.getElem?_cons_zero, List.getElem?_cons_succ] at q0 q1 q2 q3 q4
        go_wp2_with fail
        refine (law05_awake _).mono ?_
        rintro e w9 ⟨rfl, hb9⟩
        go_wp2_with fail
        go_ret
        exact ⟨rfl, BL.out.trans (hb9.mono BL.out.size)⟩

end Go.Proofs.Ytannipfohicpmaa
