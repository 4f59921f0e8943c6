/- Walks of the package casing: which jobs are valid, second part. -/
import Derived.Test.YtannipfohicpmaaCheck
namespace Go.Proofs.Ytannipfohicpmaa
open Go.RowKit Go.Shelf Mpl

set_option maxHeartbeats 1000000 in
theorem casing_checkEnds (l : List Int) (A : Option Addr) (c : Nat) (w : World) (hl : Ints w w.heap.size A l) (hcap : l.length ≤ c) :
    Calls Try.prog 71 #[.slice A l.length c] w fun e w' => e = .returned (.int .i64 (checkEnds l)) ∧ Below w.heap.size w w' := by
  by_cases h0 : l.length = 0
  · have hs : Hid (checkEnds l = 6) := by simp [checkEnds, h0, Hid]
    clear hl
    have hz : (((0 : Nat) : Int) == 0) = true := by simp
    rw [h0]
    clear h0 hcap
    go_enter Try.func71, Try.ntmps71
    go_wp2_with fail
    go_ret
    exact ⟨by rw [hs.out]; rfl, Below.refl _ _⟩
  by_cases h5 : 5 < l.length
  · have hs : Hid (checkEnds l = 8) := by simp [checkEnds, h0, h5, Hid]
    clear hl
    have hz : ((l.length : Int) == 0) = false := beq_eq_false_iff_ne.2 (by omega)
    have hz2 : decide ((5 : Int) < (l.length : Int)) = true := decide_eq_true (by omega)
    clear h0
    generalize l.length = n at *
    go_enter Try.func71, Try.ntmps71
    go_wp2_with fail
    go_ret
    exact ⟨by rw [hs.out]; rfl, Below.refl _ _⟩
  obtain ⟨b, off, rfl, hb, hc⟩ := hl (by omega)
  cases hany : l.any fun z => !within z 1 1048576
  · have hs : checkEnds l = if ascends (pick l 0) (l.drop 1) then 0 else 11 := by
      unfold checkEnds
      rw [if_neg h0, if_neg h5, hany]
      cases l with
      | nil => simp at h0
      | cons a l => simp [pick]
    rw [hs]
    exact checkEnds_loop l b off c w hb (by omega) (by omega) hcap hany hc
  · have H := Lib.hid (contains_int64 99 #[] enters_checkEnds1 (fun i => !within (pick l i) 1 1048576) (fun i => .int .i64 (pick l i)) (some ⟨b, off, none⟩) l.length c w (by omega)
      (fun _ => ⟨b, off, rfl, hb, hc⟩) (fun i _ W _ => (casing_checkEnds1 _ W).mono fun _ _ ⟨he, hw⟩ => ⟨he, hw ▸ Below.refl _ _⟩))
    rw [any_get (fun z => !within z 1 1048576) l _ (fun i hi => by simp [pick, hi]), hany] at H
    have hs : Hid (checkEnds l = 2) := by unfold Hid checkEnds; rw [if_neg h0, if_neg h5, hany]; rfl
    have hz : ((l.length : Int) == 0) = false := beq_eq_false_iff_ne.2 (by omega)
    have hz2 : decide ((5 : Int) < (l.length : Int)) = false := decide_eq_false (by omega)
    clear hc h0 hany
    generalize l.length = n at *
    go_enter Try.func71, Try.ntmps71
    go_wp2_with fail
    refine H.out.mono ?_
    rintro e w1 ⟨rfl, hb1⟩
    go_wp2_with fail
    go_ret
    exact ⟨by rw [hs.out]; rfl, hb1⟩

theorem checkLoads_step (ls : List Stress) (k : Nat) (h : k < ls.length) : checkLoads (ls.drop k) = if okLine (ld ls k).In ≠ 0 then okLine (ld ls k).In else if okLine (ld ls k).Out ≠ 0 then okLine (ld ls k).Out else checkLoads (ls.drop (k + 1)) := by
  rw [List.drop_eq_getElem_cons h, checkLoads]
  simp [ld, h]

theorem two_err (a b : List Knot) : firstErr (fun i => okLine (if i = 0 then a else b)) 0 2 = if okLine a ≠ 0 then okLine a else okLine b := by
  simp only [firstErr]
  by_cases h1 : okLine a = 0 <;> by_cases h2 : okLine b = 0 <;> simp [h1, h2]

theorem two_lines (w : World) (B g : Nat) (t : TypeId) (AI AO : Option Addr) (cI cO : Nat) (kI kO : List Knot) (hg : Box w g t #[.slice AI kI.length cI, .slice AO kO.length cO]) (hB : g < B) (hI : Knots w B AI kI) (hO : Knots w B AO kO) :
    LinesAt w B g 0 2 (fun i => if i = 0 then AI else AO) (fun i => if i = 0 then cI else cO) (fun i => if i = 0 then kI else kO) :=
  ⟨hB, fun i hi => by
    have := hg.cell i
    rcases (show i = 0 ∨ i = 1 by omega) with rfl | rfl
    · simpa using this
    · simpa using this, fun i hi => by
    rcases (show i = 0 ∨ i = 1 by omega) with rfl | rfl
    · simpa using hI
    · simpa using hO⟩

/-- what the rest of the check of a job says, behind its loads -/
def checkRest (gs : List Grade) (factor over : Int) : Int :=
  if gs.length = 0 then 6
  else if 6 < gs.length then 8
  else if gs.any (fun g => !fairGrade g) || !within factor 1000 3000 || !within over 0 1099511627776 then 2
  else 0

set_option maxHeartbeats 4000000 in
theorem Check_core (j : Job) (AE AL AG : Option Addr) (nE nL nG cE cL cG : Nat) (w : World) (hnL : nL = j.Loads.length) (hnG : nG = j.Grades.length) (h6 : nL ≤ 6)
    (hE : ∀ W, Below w.heap.size w W → Calls Try.prog 71 #[.slice AE nE cE] W fun e W' => e = .returned (.int .i64 0) ∧ Below W.heap.size W W')
    (hL : Loads w w.heap.size AL j.Loads) (hG : Grades w w.heap.size AG j.Grades) :
    Calls Try.prog 41 #[.agg #[.slice AE nE cE, .slice AL nL cL, .slice AG nG cG, .int .i64 j.Factor, .int .i64 j.Over]] w fun e w' =>
      e = .returned (.int .i64 (if checkLoads j.Loads ≠ 0 then checkLoads j.Loads else checkRest j.Grades j.Factor j.Over)) ∧ Below w.heap.size w w' := by
  have hB := (Below.refl w.heap.size w).alloc (Nat.le_refl _) (.cells #[.slice AE nE cE, .slice AL nL cL, .slice AG nG cG, .int .i64 j.Factor, .int .i64 j.Over] 36)
  have HE := Lib.hid (hE _ hB)
  have HL := Lib.hid hL
  have HG := Lib.hid hG
  have HNL := Lib.hid hnL
  have HNG := Lib.hid hnG
  clear hE hL hG hnL hnG
  have hz6 : decide ((6 : Int) < (nL : Int)) = false := decide_eq_false (by omega)
  generalize hres : (if checkLoads j.Loads ≠ 0 then checkLoads j.Loads else checkRest j.Grades j.Factor j.Over) = res
  have HR := Lib.hid hres
  clear hres
  go_enter Try.func41, Try.ntmps41
  go_wp2_with fail
  refine HE.out.mono ?_
  rintro e w1 ⟨rfl, hb1⟩
  have b0 : Box w1 w.heap.size _ _ := (Box.new w 36 #[.slice AE nE cE, .slice AL nL cL, .slice AG nG cG, .int .i64 j.Factor, .int .i64 j.Over] rfl).under hb1
  have q1 := b0.cell 1
  simp only [List.getElem?_toArray, List.getElem?_cons_zero, List.getElem?_cons_succ] at q1
  go_wp2_with fail
  go_loopw [22] (fun s22 wr => ∃ k : Nat, k ≤ nL ∧ s22 = .int .i64 k ∧ Hid (checkLoads (j.Loads.drop k) = checkLoads j.Loads) ∧ Hid (Below w1.heap.size w1 wr)) (fun s22 _ => nL - (intOf s22).toNat)
  case atStart => exact ⟨0, Nat.zero_le _, rfl, rfl, Below.refl _ _⟩
  case round =>
    obtain ⟨k, hk, rfl, hr, BW⟩ := hrel
    have BB : Hid (Below w.heap.size w wr) := (hB.trans (hb1.mono hB.size)).trans (BW.out.mono (hB.trans (hb1.mono hB.size)).size)
    by_cases hlt : k < nL
    · obtain ⟨b, off, AI, AO, cI, cO, rfl, hb, hc⟩ := HL.out (by rw [← HNL.out]; omega)
      obtain ⟨c0, c1, hk0, hk1⟩ := hc k (by rw [← HNL.out]; omega)
      clear hc
      have d0 := oldCell BB.out hb c0
      have d1 := oldCell BB.out hb c1
      clear c0 c1
      have hB2 := ((Below.refl wr.heap.size wr).alloc (Nat.le_refl _) (.cells #[.slice (AI k) (ld j.Loads k).In.length (cI k), .slice (AO k) (ld j.Loads k).Out.length (cO k)] 26)).alloc (by simp) (.cells #[.slice (AI k) (ld j.Loads k).In.length (cI k), .slice (AO k) (ld j.Loads k).Out.length (cO k)] 24)
      have hlines := two_lines _ ((wr.alloc (.cells #[.slice (AI k) (ld j.Loads k).In.length (cI k), .slice (AO k) (ld j.Loads k).Out.length (cO k)] 26)).alloc (.cells #[.slice (AI k) (ld j.Loads k).In.length (cI k), .slice (AO k) (ld j.Loads k).Out.length (cO k)] 24)).heap.size (wr.heap.size + 1) 24 (AI k) (AO k) (cI k) (cO k) (ld j.Loads k).In (ld j.Loads k).Out
        (Box.new (wr.alloc _) 24 _ (by simp)) (by simp) (hk0.up (BB.out.trans (hB2.mono BB.out.size)) (by have := BB.out.size; simp; omega)) (hk1.up (BB.out.trans (hB2.mono BB.out.size)) (by have := BB.out.size; simp; omega))
      have HC := Lib.hid (casing_checkLines _ _ 2 2 _ _ _ _ hlines (by omega))
      rw [two_err] at HC
      clear hlines hk0 hk1
      have hs := Lib.hid (checkLoads_step j.Loads k (by rw [← HNL.out]; omega))
      have hout : ∀ e, checkLoads j.Loads = e → e ≠ 0 → e = res := fun e h1 h2 => by rw [← HR.out, h1, if_pos h2]
      have HO := Lib.hid hout
      clear hout
      generalize (ld j.Loads k).In.length = n0 at *
      generalize (ld j.Loads k).Out.length = n1 at *
      by_cases hz1 : okLine (ld j.Loads k).In = 0
      · by_cases hz2 : okLine (ld j.Loads k).Out = 0
        · rw [if_neg (by simpa using hz1), hz2] at HC
          go_wp2_with fail
          refine HC.out.mono ?_
          rintro e w2 ⟨rfl, hb2⟩
          go_wp2_with fail
          go_roundw
          case rel => exact ⟨k + 1, hlt, by go_num, by unfold Hid; rw [← hr.out, hs.out, if_neg (by simpa using hz1), if_neg (by simpa using hz2)], BW.out.trans ((hB2.trans (hb2.mono hB2.size)).mono BW.out.size)⟩
          case measure => simp [intOf]; omega
        · rw [if_neg (by simpa using hz1)] at HC
          have hz' : (okLine (ld j.Loads k).Out != 0) = true := by simpa using hz2
          have hx := Lib.hid (HO.out (okLine (ld j.Loads k).Out) (by rw [← hr.out, hs.out, if_neg (by simpa using hz1), if_pos hz2]) hz2)
          generalize okLine (ld j.Loads k).Out = ee at *
          go_wp2_with fail
          refine HC.out.mono ?_
          rintro e w2 ⟨rfl, hb2⟩
          go_wp2_with fail
          go_ret
          exact ⟨ret_int hx.out, BB.out.trans ((hB2.trans (hb2.mono hB2.size)).mono BB.out.size)⟩
      · rw [if_pos hz1] at HC
        have hz' : (okLine (ld j.Loads k).In != 0) = true := by simpa using hz1
        have hx := Lib.hid (HO.out (okLine (ld j.Loads k).In) (by rw [← hr.out, hs.out, if_pos hz1]) hz1)
        generalize okLine (ld j.Loads k).In = ee at *
        go_wp2_with fail
        refine HC.out.mono ?_
        rintro e w2 ⟨rfl, hb2⟩
        go_wp2_with fail
        go_ret
        exact ⟨ret_int hx.out, BB.out.trans ((hB2.trans (hb2.mono hB2.size)).mono BB.out.size)⟩
    · have hfin : Hid (checkRest j.Grades j.Factor j.Over = res) := by
        have h0 : checkLoads j.Loads = 0 := by rw [← hr.out, List.drop_eq_nil_of_le (by rw [← HNL.out]; omega)]; rfl
        unfold Hid
        rw [← HR.out, h0]
        rfl
      have b1 := b0.under BW.out
      have r2 := b1.cell 2
      simp only [List.getElem?_toArray, List.getElem?_cons_zero, List.getElem?_cons_succ] at r2
      by_cases hg0 : nG = 0
      · have hx := Lib.hid (show checkRest j.Grades j.Factor j.Over = 6 by rw [checkRest, if_pos (by rw [← HNG.out]; exact hg0)])
        have hz : ((nG : Int) == 0) = true := beq_iff_eq.2 (by omega)
        go_wp2_with fail
        go_ret
        exact ⟨ret_int (by rw [← hfin.out, hx.out]), BB.out⟩
      have hz : ((nG : Int) == 0) = false := beq_eq_false_iff_ne.2 (by omega)
      by_cases hg6 : 6 < nG
      · have hx := Lib.hid (show checkRest j.Grades j.Factor j.Over = 8 by rw [checkRest, if_neg (by rw [← HNG.out]; exact hg0), if_pos (by rw [← HNG.out]; exact hg6)])
        have hzz : decide ((6 : Int) < (nG : Int)) = true := decide_eq_true (by omega)
        go_wp2_with fail
        go_ret
        exact ⟨ret_int (by rw [← hfin.out, hx.out]), BB.out⟩
      have hzz : decide ((6 : Int) < (nG : Int)) = false := decide_eq_false (by omega)
      have hrest : checkRest j.Grades j.Factor j.Over = if j.Grades.any (fun g => !fairGrade g) || !within j.Factor 1000 3000 || !within j.Over 0 1099511627776 then 2 else 0 := by
        rw [checkRest, if_neg (by rw [← HNG.out]; exact hg0), if_neg (by rw [← HNG.out]; exact hg6)]
      rw [hrest] at hfin
      clear hrest
      have r3 := b1.cell 3
      have r4 := b1.cell 4
      simp only [List.getElem?_toArray, List.getElem?_cons_zero, List.getElem?_cons_succ] at r3 r4
      obtain ⟨b, off, rfl, hb, hc⟩ := HG.out (by rw [← HNG.out]; omega)
      have HC := Lib.hid (contains_grade 73 #[] enters_Check1 (fun i => !fairGrade (gd j.Grades i)) (fun i => .int .i64 (gd j.Grades i).Burst) (fun i => .int .i64 (gd j.Grades i).Collapse) (fun i => .int .i64 (gd j.Grades i).Pull) (fun i => .int .i64 (gd j.Grades i).Weight) (fun i => .int .i64 (gd j.Grades i).Cost) (some ⟨b, off, none⟩) j.Grades.length cG wr (by rw [← HNG.out]; omega)
        (fun _ => ⟨b, off, rfl, Nat.lt_of_lt_of_le hb BB.out.size, fun i hi => ⟨oldCell BB.out hb (hc i hi).1, oldCell BB.out hb (hc i hi).2.1, oldCell BB.out hb (hc i hi).2.2.1, oldCell BB.out hb (hc i hi).2.2.2.1, oldCell BB.out hb (hc i hi).2.2.2.2⟩⟩)
        (fun i _ W _ => casing_Check1 (gd j.Grades i) W))
      rw [any_get (fun g => !fairGrade g) j.Grades _ (fun i hi => by simp [gd, hi]), ← HNG.out] at HC
      clear hc
      cases ha : j.Grades.any fun g => !fairGrade g
      · cases hf : within j.Factor 1000 3000
        · rw [ha, hf] at hfin
          rw [ha] at HC
          go_wp2_with fail
          refine HC.out.mono ?_
          rintro e w2 ⟨rfl, hb2⟩
          have s3 := (b1.under hb2).cell 3
          simp only [List.getElem?_toArray, List.getElem?_cons_zero, List.getElem?_cons_succ] at s3
          go_wp2_with (go_at_call 48; refine (casing_within _ _ _ _).mono ?_; rintro e w' ⟨rfl, rfl⟩)
          go_ret
          exact ⟨ret_int hfin.out, BB.out.trans (hb2.mono BB.out.size)⟩
        · cases ho : within j.Over 0 1099511627776
          all_goals
            rw [ha, hf, ho] at hfin
            rw [ha] at HC
            go_wp2_with fail
            refine HC.out.mono ?_
            rintro e w2 ⟨rfl, hb2⟩
            have s3 := (b1.under hb2).cell 3
            have s4 := (b1.under hb2).cell 4
            simp only [List.getElem?_toArray, List.getElem?_cons_zero, List.getElem?_cons_succ] at s3 s4
            go_wp2_with (go_at_call 48; refine (casing_within _ _ _ _).mono ?_; rintro e w' ⟨rfl, rfl⟩)
            go_ret
            exact ⟨ret_int hfin.out, BB.out.trans (hb2.mono BB.out.size)⟩
      · rw [ha] at hfin HC
        go_wp2_with fail
        refine HC.out.mono ?_
        rintro e w2 ⟨rfl, hb2⟩
        go_wp2_with fail
        go_ret
        exact ⟨ret_int hfin.out, BB.out.trans (hb2.mono BB.out.size)⟩

theorem checkJob_eq (j : Job) (h1 : checkEnds j.Ends = 0) (h6 : j.Loads.length ≤ 6) : checkJob j = if checkLoads j.Loads ≠ 0 then checkLoads j.Loads else checkRest j.Grades j.Factor j.Over := by
  unfold checkJob checkRest
  rw [if_neg (by simpa using h1), if_neg (by omega)]

set_option maxHeartbeats 1000000 in
theorem casing_Check (j : Job) (v0 : Value) (w : World) (hv : JobV w w.heap.size v0 j) :
    Calls Try.prog 41 #[v0] w fun e w' => e = .returned (.int .i64 (checkJob j)) ∧ Below w.heap.size w w' := by
  obtain ⟨AE, cE, AL, cL, AG, cG, rfl, hcap, hE, hL, hG⟩ := hv
  have hce := fun W (hW : Below w.heap.size w W) => casing_checkEnds j.Ends AE cE W (hE.up hW hW.size) hcap
  by_cases h1 : checkEnds j.Ends = 0
  · rw [h1] at hce
    by_cases h6 : j.Loads.length ≤ 6
    · rw [checkJob_eq j h1 h6]
      exact Check_core j AE AL AG _ _ _ cE cL cG w rfl rfl h6 hce hL hG
    · have hB := (Below.refl w.heap.size w).alloc (Nat.le_refl _) (.cells #[.slice AE j.Ends.length cE, .slice AL j.Loads.length cL, .slice AG j.Grades.length cG, .int .i64 j.Factor, .int .i64 j.Over] 36)
      have HE := Lib.hid (hce _ hB)
      have hs := Lib.hid (show checkJob j = 8 by unfold checkJob; rw [if_neg (by simpa using h1), if_pos (by omega)])
      have hz6 : decide ((6 : Int) < (j.Loads.length : Int)) = true := decide_eq_true (by omega)
      clear hce hE hL hG h1 hcap
      generalize j.Ends.length = nE at *
      generalize j.Loads.length = nL at *
      generalize j.Grades.length = nG at *
      go_enter Try.func41, Try.ntmps41
      go_wp2_with fail
      refine HE.out.mono ?_
      rintro e w1 ⟨rfl, hb1⟩
      have b0 : Box w1 w.heap.size _ _ := (Box.new w 36 #[.slice AE nE cE, .slice AL nL cL, .slice AG nG cG, .int .i64 j.Factor, .int .i64 j.Over] rfl).under hb1
      have q1 := b0.cell 1
      simp only [List.getElem?_toArray, List.getElem?_cons_zero, List.getElem?_cons_succ] at q1
      go_wp2_with fail
      go_ret
      exact ⟨ret_int (by rw [hs.out]), hB.trans (hb1.mono hB.size)⟩
  · have hB := (Below.refl w.heap.size w).alloc (Nat.le_refl _) (.cells #[.slice AE j.Ends.length cE, .slice AL j.Loads.length cL, .slice AG j.Grades.length cG, .int .i64 j.Factor, .int .i64 j.Over] 36)
    have HE := Lib.hid (hce _ hB)
    have hs := Lib.hid (show checkJob j = checkEnds j.Ends by unfold checkJob; rw [if_pos (by simpa using h1)])
    have hz : (checkEnds j.Ends != 0) = true := by simpa using h1
    clear hce hE hL hG h1 hcap
    generalize j.Ends.length = nE at *
    generalize j.Loads.length = nL at *
    generalize j.Grades.length = nG at *
    go_enter Try.func41, Try.ntmps41
    go_wp2_with fail
    refine HE.out.mono ?_
    rintro e w1 ⟨rfl, hb1⟩
    generalize checkEnds j.Ends = ee at *
    go_wp2_with fail
    go_ret
    exact ⟨ret_int (by rw [hs.out]), hB.trans (hb1.mono hB.size)⟩

end Go.Proofs.Ytannipfohicpmaa
