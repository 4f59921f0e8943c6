/- Walks of the reference of layer 5: which jobs are valid, second part. -/
import Derived.Test.YtannipfohicpmaaRefCheck
import Derived.Test.YtannipfohicpmaaRefExcess
namespace Go.Proofs.Ytannipfohicpmaa
open Go.RowKit Go.Shelf Mpl

theorem job_box {w W : World} {j : Job} {AE AL AG : Option Addr} {nE nL nG cE cL cG : Nat} (h : Box W w.heap.size 36 #[.slice AE nE cE, .slice AL nL cL, .slice AG nG cG, .int .i64 j.Factor, .int .i64 j.Over]) :
    W.cell? ⟨w.heap.size, 0, none⟩ = some (.slice AE nE cE) ∧ W.cell? ⟨w.heap.size, 1, none⟩ = some (.slice AL nL cL) ∧ W.cell? ⟨w.heap.size, 2, none⟩ = some (.slice AG nG cG) ∧ W.cell? ⟨w.heap.size, 3, none⟩ = some (.int .i64 j.Factor) ∧ W.cell? ⟨w.heap.size, 4, none⟩ = some (.int .i64 j.Over) :=
  ⟨h.cell 0, h.cell 1, h.cell 2, h.cell 3, h.cell 4⟩

theorem rest_any {gs : List Grade} {f o : Int} (h0 : ¬ gs.length = 0) (h6 : ¬ 6 < gs.length) : checkRest gs f o = if gs.any (fun g => !fairGrade g) then 2 else if f < 1000 ∨ 3000 < f ∨ o < 0 ∨ 1099511627776 < o then 2 else 0 := by
  have hw : (!within f 1000 3000 || !within o 0 1099511627776) = decide (f < 1000 ∨ 3000 < f ∨ o < 0 ∨ 1099511627776 < o) := by
    rw [Bool.eq_iff_iff]
    simp [within]
    omega
  rw [checkRest, if_neg h0, if_neg h6, Bool.or_assoc, hw]
  cases gs.any (fun g => !fairGrade g)
  · simp
  · simp

set_option maxHeartbeats 8000000 in
set_option maxRecDepth 100000 in
theorem ref05_Check_core (j : Job) (AE AL AG : Option Addr) (nE nL nG cE cL cG : Nat) (w : World) (hnL : nL = j.Loads.length) (hnG : nG = j.Grades.length) (h6 : nL ≤ 6)
    (hE : ∀ W, Below w.heap.size w W → Calls Try.prog 76 #[.slice AE nE cE] W fun e W' => e = .returned (.int .i64 0) ∧ Below W.heap.size W W')
    (hL : Loads w w.heap.size AL j.Loads) (hG : Grades w w.heap.size AG j.Grades) :
    Calls Try.prog 42 #[.agg #[.slice AE nE cE, .slice AL nL cL, .slice AG nG cG, .int .i64 j.Factor, .int .i64 j.Over]] w fun e w' =>
      e = .returned (.int .i64 (if checkLoads j.Loads ≠ 0 then checkLoads j.Loads else checkRest j.Grades j.Factor j.Over)) ∧ Below w.heap.size w w' := by
  have hB := (Below.refl w.heap.size w).alloc (Nat.le_refl _) (.cells #[.slice AE nE cE, .slice AL nL cL, .slice AG nG cG, .int .i64 j.Factor, .int .i64 j.Over] 36)
  have HE := Lib.hid (hE _ hB)
  have HL := Lib.hid hL
  have HG := Lib.hid hG
  have HNL := Lib.hid hnL
  have HNG := Lib.hid hnG
  clear hE hL hG hnL hnG
  have hz6 : decide ((6 : Int) < (nL : Int)) = false := decide_eq_false (by omega)
  generalize hres : (if checkLoads j.Loads ≠ 0 then checkLoads j.Loads else checkRest j.Grades j.Factor j.Over) = res
  have HR := Lib.hid hres
  clear hres
  go_enter Try.func42, Try.ntmps42
  go_wp2_with fail
  refine HE.out.mono ?_
  rintro e w1 ⟨rfl, hb1⟩
  have b0 : Box w1 w.heap.size 36 #[.slice AE nE cE, .slice AL nL cL, .slice AG nG cG, .int .i64 j.Factor, .int .i64 j.Over] := (Box.new w _ _ rfl).under hb1
  have HB1 := Lib.hid (hB.trans (hb1.mono hB.size))
  have Hb0 := Lib.hid b0
  obtain ⟨_, q1, _, _, _⟩ := job_box b0
  clear hb1 hB b0 HE
  go_wp2_with fail
  clear q1
  go_loopw [3, 4] (fun s3 s4 wr => ∃ k : Nat, k ≤ nL ∧ s4 = .int .i64 k ∧ s3 = .int .i64 0 ∧ Hid (checkLoads (j.Loads.drop k) = checkLoads j.Loads) ∧ Hid (Below w1.heap.size w1 wr)) (fun _ s4 _ => nL - (intOf s4).toNat)
  case atStart => exact ⟨0, Nat.zero_le _, rfl, rfl, rfl, Below.refl _ _⟩
  case round =>
    obtain ⟨k, hk, rfl, rfl, hr, BW⟩ := hrel
    have BB := Lib.hid (HB1.out.trans (BW.out.mono HB1.out.size))
    obtain ⟨_, q1, q2, q3, q4⟩ := job_box (Hb0.out.under BW.out)
    by_cases hlt : k < nL
    · obtain ⟨b, off, AI, AO, cI, cO, rfl, hb, hc⟩ := HL.out (by rw [← HNL.out]; omega)
      obtain ⟨c0, c1, hk0, hk1⟩ := hc k (by rw [← HNL.out]; omega)
      have HC0 := Lib.hid c0
      have HC1 := Lib.hid c1
      have d0 := oldCell BB.out hb c0
      clear hc c0 c1
      have hs := Lib.hid (checkLoads_step j.Loads k (by rw [← HNL.out]; omega))
      have hout : ∀ e, checkLoads j.Loads = e → e ≠ 0 → e = res := fun e h1 h2 => by rw [← HR.out, h1, if_pos h2]
      have HO := Lib.hid hout
      clear hout
      have HLI := Lib.hid (fun W (hW : Below w.heap.size w W) => ref05_line (.agg #[.slice (AI k) (ld j.Loads k).In.length (cI k)]) (ld j.Loads k).In W ⟨AI k, cI k, rfl, hk0.up hW hW.size⟩)
      have HLO := Lib.hid (fun W (hW : Below w.heap.size w W) => ref05_line (.agg #[.slice (AO k) (ld j.Loads k).Out.length (cO k)]) (ld j.Loads k).Out W ⟨AO k, cO k, rfl, hk1.up hW hW.size⟩)
      clear hk0 hk1 q2 q3 q4
      generalize (ld j.Loads k).In.length = n0 at *
      generalize (ld j.Loads k).Out.length = n1 at *
      by_cases hz1 : okLine (ld j.Loads k).In = 0
      · rw [hz1] at HLI
        go_wp2_with fail
        refine (HLI.out wr BB.out).mono ?_
        rintro e w2 ⟨rfl, hb2⟩
        have BB2 := Lib.hid (BB.out.trans (hb2.mono BB.out.size))
        have BW2 := Lib.hid (BW.out.trans (hb2.mono BW.out.size))
        obtain ⟨_, q1', _, _, _⟩ := job_box (Hb0.out.under BW2.out)
        have d1 := oldCell BB2.out hb HC1.out
        clear hb2 q1 d0
        by_cases hz2 : okLine (ld j.Loads k).Out = 0
        · rw [hz2] at HLO
          go_wp2_with fail
          refine (HLO.out w2 BB2.out).mono ?_
          rintro e w3 ⟨rfl, hb3⟩
          have BW3 := Lib.hid (BW2.out.trans (hb3.mono BW2.out.size))
          clear hb3
          go_wp2_with fail
          go_roundw
          case rel => exact ⟨k + 1, hlt, by go_num, rfl, by unfold Hid; rw [← hr.out, hs.out, if_neg (by simpa using hz1), if_neg (by simpa using hz2)], BW3⟩
          case measure => simp [intOf]; omega
        · have hx := Lib.hid (HO.out (okLine (ld j.Loads k).Out) (by rw [← hr.out, hs.out, if_neg (by simpa using hz1), if_pos hz2]) hz2)
          have hz' : (okLine (ld j.Loads k).Out != 0) = true := by simpa using hz2
          clear hz2
          generalize okLine (ld j.Loads k).Out = ee at *
          go_wp2_with fail
          refine (HLO.out w2 BB2.out).mono ?_
          rintro e w3 ⟨rfl, hb3⟩
          go_wp2_with fail
          go_ret
          exact ⟨ret_int hx.out, BB2.out.trans (hb3.mono BB2.out.size)⟩
      · have hx := Lib.hid (HO.out (okLine (ld j.Loads k).In) (by rw [← hr.out, hs.out, if_pos hz1]) hz1)
        have hz' : (okLine (ld j.Loads k).In != 0) = true := by simpa using hz1
        clear hz1
        generalize okLine (ld j.Loads k).In = ee at *
        go_wp2_with fail
        refine (HLI.out wr BB.out).mono ?_
        rintro e w2 ⟨rfl, hb2⟩
        go_wp2_with fail
        go_ret
        exact ⟨ret_int hx.out, BB.out.trans (hb2.mono BB.out.size)⟩
    · have hfin : Hid (checkRest j.Grades j.Factor j.Over = res) := by
        have h0 : checkLoads j.Loads = 0 := by rw [← hr.out, List.drop_eq_nil_of_le (by rw [← HNL.out]; omega)]; rfl
        unfold Hid
        rw [← HR.out, h0]
        rfl
      by_cases hg0 : nG = 0
      · have hx := Lib.hid (show checkRest j.Grades j.Factor j.Over = 6 by rw [checkRest, if_pos (by rw [← HNG.out]; exact hg0)])
        have hz : ((nG : Int) == 0) = true := beq_iff_eq.2 (by omega)
        clear hg0
        go_wp2_with fail
        go_ret
        exact ⟨ret_int (by rw [← hfin.out, hx.out]), BB.out⟩
      have hz : ((nG : Int) == 0) = false := beq_eq_false_iff_ne.2 (by omega)
      by_cases hg6 : 6 < nG
      · have hx := Lib.hid (show checkRest j.Grades j.Factor j.Over = 8 by rw [checkRest, if_neg (by rw [← HNG.out]; exact hg0), if_pos (by rw [← HNG.out]; exact hg6)])
        have hzz : decide ((6 : Int) < (nG : Int)) = true := decide_eq_true (by omega)
        go_wp2_with fail
        go_ret
        exact ⟨ret_int (by rw [← hfin.out, hx.out]), BB.out⟩
      have hzz : decide ((6 : Int) < (nG : Int)) = false := decide_eq_false (by omega)
      have hra := rest_any (gs := j.Grades) (f := j.Factor) (o := j.Over) (by rw [← HNG.out]; exact hg0) (by rw [← HNG.out]; exact hg6)
      rw [hra] at hfin
      clear hra
      have hng0 : 0 < nG := by omega
      clear hg0
      obtain ⟨b, off, rfl, hb, hc⟩ := HG.out (by rw [← HNG.out]; omega)
      have HGC := Lib.hid hc
      clear hc
      go_wp2_with fail
      clear q1 q2 q3 q4 hz hzz
      obtain ⟨wo, rfl⟩ : ∃ wo : World, wo = wr := ⟨_, rfl⟩
      go_loopw [5] (fun s5 wr => ∃ i : Nat, i ≤ nG ∧ s5 = .int .i64 i ∧ Hid ((j.Grades.drop i).any (fun g => !fairGrade g) = j.Grades.any (fun g => !fairGrade g)) ∧ Hid (Below w1.heap.size w1 wr)) (fun s5 _ => nG - (intOf s5).toNat)
      case atStart => exact ⟨0, Nat.zero_le _, rfl, rfl, BW⟩
      case round =>
        obtain ⟨i, hi, rfl, hq, BV⟩ := hrel
        have BB2 := Lib.hid (HB1.out.trans (BV.out.mono HB1.out.size))
        obtain ⟨_, _, q2, q3, q4⟩ := job_box (Hb0.out.under BV.out)
        by_cases hlt2 : i < nG
        · obtain ⟨c0, c1, c2, c3, c4⟩ := HGC.out i (by rw [← HNG.out]; exact hlt2)
          have e0 := oldCell BB2.out hb c0
          have e1 := oldCell BB2.out hb c1
          have e2 := oldCell BB2.out hb c2
          have e3 := oldCell BB2.out hb c3
          have e4 := oldCell BB2.out hb c4
          clear c0 c1 c2 c3 c4
          have hst := Lib.hid (any_grade (fun g => !fairGrade g) j.Grades i (by rw [← HNG.out]; exact hlt2))
          have HGR := Lib.hid (ref05_grade (gd j.Grades i) wr)
          unfold gradeV at HGR
          cases hfg : fairGrade (gd j.Grades i)
          · rw [hfg] at HGR hst
            have hx : Hid (res = 2) := by
              unfold Hid
              rw [← hfin.out, ← hq.out, hst.out]
              rfl
            go_wp2_with fail
            refine HGR.out.mono ?_
            rintro e w2 ⟨rfl, hb2⟩
            go_wp2_with fail
            go_ret
            exact ⟨ret_int hx.out.symm, BB2.out.trans (hb2.mono BB2.out.size)⟩
          · rw [hfg] at HGR hst
            go_wp2_with fail
            refine HGR.out.mono ?_
            rintro e w2 ⟨rfl, hb2⟩
            have BV2 := Lib.hid (BV.out.trans (hb2.mono BV.out.size))
            clear hb2
            go_wp2_with fail
            go_roundw
            case rel => exact ⟨i + 1, hlt2, by go_num, by unfold Hid; rw [← hq.out, hst.out]; rfl, BV2⟩
            case measure => simp [intOf]; omega
        · have hany : j.Grades.any (fun g => !fairGrade g) = false := by
            rw [← hq.out, List.drop_eq_nil_of_le (by rw [← HNG.out]; omega)]
            rfl
          rw [hany] at hfin
          clear hany hq
          have hfin2 : Hid ((if j.Factor < 1000 ∨ 3000 < j.Factor ∨ j.Over < 0 ∨ 1099511627776 < j.Over then (2 : Int) else 0) = res) := hfin.out
          clear hfin
          have hcs : j.Factor < 1000 ∨ (1000 ≤ j.Factor ∧ 3000 < j.Factor) ∨ (1000 ≤ j.Factor ∧ j.Factor ≤ 3000 ∧ j.Over < 0) ∨ (1000 ≤ j.Factor ∧ j.Factor ≤ 3000 ∧ 0 ≤ j.Over ∧ 1099511627776 < j.Over) ∨ (1000 ≤ j.Factor ∧ j.Factor ≤ 3000 ∧ 0 ≤ j.Over ∧ j.Over ≤ 1099511627776) := by omega
          generalize j.Factor = fa at *
          generalize j.Over = ov at *
          rcases hcs with h1 | ⟨h1, h2⟩ | ⟨h1, h2, h3⟩ | ⟨h1, h2, h3, h4⟩ | ⟨h1, h2, h3, h4⟩
          · have f1 : decide (fa < 1000) = true := decide_eq_true h1
            rw [if_pos (by omega)] at hfin2
            go_wp2_with fail
            go_ret
            exact ⟨ret_int hfin2.out, BB2.out⟩
          · have f1 : decide (fa < 1000) = false := decide_eq_false (by omega)
            have f2 : decide (3000 < fa) = true := decide_eq_true h2
            rw [if_pos (by omega)] at hfin2
            go_wp2_with fail
            go_ret
            exact ⟨ret_int hfin2.out, BB2.out⟩
          · have f1 : decide (fa < 1000) = false := decide_eq_false (by omega)
            have f2 : decide (3000 < fa) = false := decide_eq_false (by omega)
            have f3 : decide (ov < 0) = true := decide_eq_true h3
            rw [if_pos (by omega)] at hfin2
            go_wp2_with fail
            go_ret
            exact ⟨ret_int hfin2.out, BB2.out⟩
          · have f1 : decide (fa < 1000) = false := decide_eq_false (by omega)
            have f2 : decide (3000 < fa) = false := decide_eq_false (by omega)
            have f3 : decide (ov < 0) = false := decide_eq_false (by omega)
            have f4 : decide (1099511627776 < ov) = true := decide_eq_true h4
            rw [if_pos (by omega)] at hfin2
            go_wp2_with fail
            go_ret
            exact ⟨ret_int hfin2.out, BB2.out⟩
          · have f1 : decide (fa < 1000) = false := decide_eq_false (by omega)
            have f2 : decide (3000 < fa) = false := decide_eq_false (by omega)
            have f3 : decide (ov < 0) = false := decide_eq_false (by omega)
            have f4 : decide (1099511627776 < ov) = false := decide_eq_false (by omega)
            rw [if_neg (by omega)] at hfin2
            go_wp2_with fail
            go_ret
            exact ⟨ret_int hfin2.out, BB2.out⟩

set_option maxHeartbeats 1000000 in
theorem ref05_Check (j : Job) (v0 : Value) (w : World) (hv : JobV w w.heap.size v0 j) :
    Calls Try.prog 42 #[v0] w fun e w' => e = .returned (.int .i64 (checkJob j)) ∧ Below w.heap.size w w' := by
  obtain ⟨AE, cE, AL, cL, AG, cG, rfl, hcap, hE, hL, hG⟩ := hv
  have hce := fun W (hW : Below w.heap.size w W) => ref05_ends j.Ends AE cE W (hE.up hW hW.size)
  by_cases h1 : checkEnds j.Ends = 0
  · rw [h1] at hce
    by_cases h6 : j.Loads.length ≤ 6
    · rw [checkJob_eq j h1 h6]
      exact ref05_Check_core j AE AL AG _ _ _ cE cL cG w rfl rfl h6 hce hL hG
    · have hB := (Below.refl w.heap.size w).alloc (Nat.le_refl _) (.cells #[.slice AE j.Ends.length cE, .slice AL j.Loads.length cL, .slice AG j.Grades.length cG, .int .i64 j.Factor, .int .i64 j.Over] 36)
      have HE := Lib.hid (hce _ hB)
      have hs := Lib.hid (show checkJob j = 8 by unfold checkJob; rw [if_neg (by simpa using h1), if_pos (by omega)])
      have hz6 : decide ((6 : Int) < (j.Loads.length : Int)) = true := decide_eq_true (by omega)
      clear hce hE hL hG h1 hcap
      generalize j.Ends.length = nE at *
      generalize j.Loads.length = nL at *
      generalize j.Grades.length = nG at *
      go_enter Try.func42, Try.ntmps42
      go_wp2_with fail
      refine HE.out.mono ?_
      rintro e w1 ⟨rfl, hb1⟩
      obtain ⟨_, q1, _, _, _⟩ := job_box ((Box.new w 36 #[.slice AE nE cE, .slice AL nL cL, .slice AG nG cG, .int .i64 j.Factor, .int .i64 j.Over] rfl).under hb1)
      go_wp2_with fail
      go_ret
      exact ⟨ret_int (by rw [hs.out]), hB.trans (hb1.mono hB.size)⟩
  · have hB := (Below.refl w.heap.size w).alloc (Nat.le_refl _) (.cells #[.slice AE j.Ends.length cE, .slice AL j.Loads.length cL, .slice AG j.Grades.length cG, .int .i64 j.Factor, .int .i64 j.Over] 36)
    have HE := Lib.hid (hce _ hB)
    have hs := Lib.hid (show checkJob j = checkEnds j.Ends by unfold checkJob; rw [if_pos (by simpa using h1)])
    have hz : (checkEnds j.Ends != 0) = true := by simpa using h1
    clear hce hE hL hG h1 hcap
    generalize j.Ends.length = nE at *
    generalize j.Loads.length = nL at *
    generalize j.Grades.length = nG at *
    go_enter Try.func42, Try.ntmps42
    go_wp2_with fail
    refine HE.out.mono ?_
    rintro e w1 ⟨rfl, hb1⟩
    generalize checkEnds j.Ends = ee at *
    go_wp2_with fail
    go_ret
    exact ⟨ret_int (by rw [hs.out]), hB.trans (hb1.mono hB.size)⟩

end Go.Proofs.Ytannipfohicpmaa
