/- The law CasingChooses, walked. -/
import Derived.Test.YtannipfohicpmaaPackCopy
import Derived.Test.YtannipfohicpmaaOpen
import Derived.Test.YtannipfohicpmaaAwake
namespace Go.Proofs.Ytannipfohicpmaa
open Go.RowKit Go.Shelf Mpl

theorem chosen_none {w : World} {j : Job} {e : Ending} {w' : World} (h : chooseOf j = none) (hc : ChosenV w j e w') : e = .returned (.tuple #[.slice none 0 0, .bool false]) ∧ Below w.heap.size w w' := by
  unfold ChosenV at hc
  rw [h] at hc
  exact hc
theorem chosen_some {w : World} {j : Job} {l : List Int} {e : Ending} {w' : World} (h : chooseOf j = some l) (hc : ChosenV w j e w') : (∃ A c, e = .returned (.tuple #[.slice A l.length c, .bool true]) ∧ Ints w' w'.heap.size A l) ∧ Below w.heap.size w w' := by
  unfold ChosenV at hc
  rw [h] at hc
  exact hc
theorem chosen_short {j : Job} {l : List Int} (h : chooseOf j = some l) : l.length ≤ 1000 := by
  by_cases hok : checkJob j = 0
  · obtain ⟨h1, _, _⟩ := choose_some hok h
    have := isChoice_chosen h1
    have h2 := this.few
    have h3 := this.same
    omega
  · rw [choose_bad hok] at h
    cases h

set_option maxHeartbeats 8000000 in
set_option maxRecDepth 100000 in
theorem walk_CasingChooses (j : Job) (v0 : Value) (w : World) (hv : JobV w w.heap.size v0 j) (_hin : JobIn j) :
    Calls Try.prog 8 #[v0] w fun e w' => e = .returned (.bool true) ∧ Below w.heap.size w w' := by
  have HV := Lib.hid hv
  have HSM := Lib.hid (fun W (hW : Below w.heap.size w W) => law05_small j _ W (HV.out.below hW))
  obtain ⟨AE, cE, AL, cL, AG, cG, rfl, _, _, _, _⟩ := hv
  clear _hin
  have HB := Lib.hid ((Below.refl w.heap.size w).alloc (Nat.le_refl _) (.cells #[.slice AE j.Ends.length cE, .slice AL j.Loads.length cL, .slice AG j.Grades.length cG, .int .i64 j.Factor, .int .i64 j.Over] 36))
  have B0 := Lib.hid (Box.new w 36 #[.slice AE j.Ends.length cE, .slice AL j.Loads.length cL, .slice AG j.Grades.length cG, .int .i64 j.Factor, .int .i64 j.Over] rfl)
  cases hs : smallJob j
  · rw [hs] at HSM
    clear hs
    generalize j.Ends.length = nE at *
    generalize j.Loads.length = nL at *
    generalize j.Grades.length = nG at *
    go_enter Try.func8, Try.ntmps8
    go_wp2_with fail
    refine (HSM.out _ HB.out).mono ?_
    rintro e w1 ⟨rfl, hb1⟩
    have HB1 := Lib.hid (HB.out.trans (hb1.mono HB.out.size))
    go_wp2_with fail
    refine (law05_awake _).mono ?_
    rintro e w2 ⟨rfl, hb2⟩
    go_wp2_with fail
    go_ret
    exact ⟨rfl, HB1.out.trans (hb2.mono HB1.out.size)⟩
  rw [hs] at HSM
  by_cases h4 : j.Ends.length ≤ 4
  case neg =>
    clear hs
    generalize j.Ends.length = nE at *
    generalize j.Loads.length = nL at *
    generalize j.Grades.length = nG at *
    have t1 : decide ((4 : Int) < (nE : Int)) = true := decide_eq_true (by omega)
    have t1' : decide (4 < nE) = true := decide_eq_true (by omega)
    go_enter Try.func8, Try.ntmps8
    go_wp2_with fail
    refine (HSM.out _ HB.out).mono ?_
    rintro e w1 ⟨rfl, hb1⟩
    have HB1 := Lib.hid (HB.out.trans (hb1.mono HB.out.size))
    obtain ⟨q0, _, _, _, _⟩ := job_box (B0.out.under hb1)
    clear hb1
    go_wp2_with fail
    refine (law05_awake _).mono ?_
    rintro e w2 ⟨rfl, hb2⟩
    go_wp2_with fail
    go_ret
    exact ⟨rfl, HB1.out.trans (hb2.mono HB1.out.size)⟩
  obtain ⟨hs1, hs2, hs3, hs4⟩ := small_parts hs
  have HCP := Lib.hid (fun W (hW : Below w.heap.size w W) => ref05_Copy j _ W (HV.out.below hW) (by omega) (by omega) (by omega) hs4)
  have HCA := Lib.hid (fun v W (hv : JobV W W.heap.size v j) => casing_Choose j v W hv)
  have HCR := Lib.hid (fun W (hW : Below w.heap.size w W) => ref05_Choose j _ W (HV.out.below hW))
  have HSA := Lib.hid (fun v W (hv : JobV W W.heap.size v j) (hW : Below w.heap.size w W) => (by have := ref05_Same j j v _ W hv (HV.out.below hW) hs hs; rw [sameJob_self] at this; exact this :
    Calls Try.prog 38 #[v, .agg #[.slice AE j.Ends.length cE, .slice AL j.Loads.length cL, .slice AG j.Grades.length cG, .int .i64 j.Factor, .int .i64 j.Over]] W fun e w' => e = .returned (.bool true) ∧ Below W.heap.size W w'))
  clear hs hs1 hs2 hs3 hs4
  have HFORM := Lib.hid (fun (W : World) (base : Nat) v (h : JobOwn W base v j) => (by obtain ⟨a, b, c, d, e, f, ls, h, _⟩ := h; exact ⟨a, b, c, d, e, f, h⟩ :
    ∃ AE' cE' AL' cL' AG' cG', v = .agg #[.slice AE' j.Ends.length cE', .slice AL' j.Loads.length cL', .slice AG' j.Grades.length cG', .int .i64 j.Factor, .int .i64 j.Over]))
  generalize j.Ends.length = nE at *
  generalize j.Loads.length = nL at *
  generalize j.Grades.length = nG at *
  have t1 : decide ((4 : Int) < (nE : Int)) = false := decide_eq_false (by omega)
  have t1' : decide (4 < nE) = false := decide_eq_false (by omega)
  go_enter Try.func8, Try.ntmps8
  go_wp2_with fail
  refine (HSM.out _ HB.out).mono ?_
  rintro e w1 ⟨rfl, hb1⟩
  have HB1 := Lib.hid (HB.out.trans (hb1.mono HB.out.size))
  have X1 := Lib.hid (B0.out.under hb1)
  clear hb1
  obtain ⟨q0, q1, q2, q3, q4⟩ := job_box X1.out
  go_wp2_with fail
  clear t1 t1'
  refine (HCP.out _ HB1.out).mono ?_
  rintro e w2 ⟨⟨v, rfl, hown⟩, hb2⟩
  have HJ2 := Lib.hid hown.job
  obtain ⟨AE', cE', AL', cL', AG', cG', rfl⟩ := HFORM.out _ _ _ hown
  have X2 := Lib.hid (X1.out.under hb2)
  have HB2 := Lib.hid (HB1.out.trans (hb2.mono HB1.out.size))
  clear hown hb2 q0 q1 q2 q3 q4
  obtain ⟨w3, hw3⟩ : ∃ w3, w2.alloc (.cells #[.slice AE' nE cE', .slice AL' nL cL', .slice AG' nG cG', .int .i64 j.Factor, .int .i64 j.Over] 36) = w3 := ⟨_, rfl⟩
  have hb3 : Below w2.heap.size w2 w3 := by rw [← hw3]; exact (Below.refl _ _).alloc (Nat.le_refl _) _
  have Y3 := Lib.hid (show Box w3 w2.heap.size 36 #[.slice AE' nE cE', .slice AL' nL cL', .slice AG' nG cG', .int .i64 j.Factor, .int .i64 j.Over] by rw [← hw3]; exact Box.new _ _ _ rfl)
  have X3 := Lib.hid (X2.out.under hb3)
  have HJ3 := Lib.hid (HJ2.out.below hb3)
  have HB3 := Lib.hid (HB2.out.trans (hb3.mono HB2.out.size))
  have HW3 := Lib.hid hw3
  clear hw3 hb3
  obtain ⟨q0, q1, q2, q3, q4⟩ := job_box Y3.out
  go_upto_region 4 with fail
  rw [HW3.out]
  go_wp2_with fail
  refine (HCA.out _ _ HJ3.out).mono ?_
  cases hc : chooseOf j with
  | none =>
    have HCN := Lib.hid (fun (W : World) (e : Ending) (w' : World) (h : ChosenV W j e w') => chosen_none hc h)
    have HSI := Lib.hid (fun W => kit_SameInts [] [] none none 0 0 W (fun h => absurd h (by simp)) (fun h => absurd h (by simp)) (by simp) (by simp))
    clear hc
    intro e w4 h4
    obtain ⟨rfl, hb4⟩ := HCN.out _ _ _ h4
    have X4 := Lib.hid (X3.out.under hb4)
    have Y4 := Lib.hid (Y3.out.under hb4)
    have HJ4 := Lib.hid (HJ3.out.below hb4)
    have HB4 := Lib.hid (HB3.out.trans (hb4.mono HB3.out.size))
    clear h4 hb4 q0 q1 q2 q3 q4
    obtain ⟨q0, q1, q2, q3, q4⟩ := job_box X4.out
    go_wp2_with fail
    refine (HCR.out _ HB4.out).mono ?_
    intro e w5 h5
    obtain ⟨rfl, hb5⟩ := HCN.out _ _ _ h5
    have X5 := Lib.hid (X4.out.under hb5)
    have Y5 := Lib.hid (Y4.out.under hb5)
    have HJ5 := Lib.hid (HJ4.out.below hb5)
    have HB5 := Lib.hid (HB4.out.trans (hb5.mono HB4.out.size))
    clear h5 hb5 q0 q1 q2 q3 q4
    go_wp2_with fail
    refine (HSI.out _).mono ?_
    rintro e w6 ⟨rfl, hb6⟩
    have X6 := Lib.hid (X5.out.under hb6)
    have Y6 := Lib.hid (Y5.out.under hb6)
    have HJ6 := Lib.hid (HJ5.out.below hb6)
    have HB6 := Lib.hid (HB5.out.trans (hb6.mono HB5.out.size))
    clear hb6
    obtain ⟨q0, q1, q2, q3, q4⟩ := job_box X6.out
    obtain ⟨r0, r1, r2, r3, r4⟩ := job_box Y6.out
    go_wp2_with fail
    refine (HSA.out _ _ HJ6.out HB6.out).mono ?_
    rintro e w7 ⟨rfl, hb7⟩
    have HB7 := Lib.hid (HB6.out.trans (hb7.mono HB6.out.size))
    clear hb7 q0 q1 q2 q3 q4 r0 r1 r2 r3 r4
    go_wp2_with fail
    refine (law05_awake _).mono ?_
    rintro e w8 ⟨rfl, hb8⟩
    go_wp2_with fail
    go_ret
    exact ⟨rfl, HB7.out.trans (hb8.mono HB7.out.size)⟩
  | some l =>
    have HCN := Lib.hid (fun (W : World) (e : Ending) (w' : World) (h : ChosenV W j e w') => chosen_some hc h)
    have hsh := chosen_short hc
    have HSI := Lib.hid (fun A B c d W hx hy => (by have := kit_SameInts l l A B c d W hx hy hsh hsh; rw [show decide (l = l) = true by simp] at this; exact this : Calls Try.prog 29 #[.slice A l.length c, .slice B l.length d] W fun e w' => e = .returned (.bool true) ∧ Below W.heap.size W w'))
    clear hc hsh
    generalize l.length = nl at *
    intro e w4 h4
    obtain ⟨⟨A4, c4, rfl, hI4⟩, hb4⟩ := HCN.out _ _ _ h4
    have I4 := Lib.hid hI4
    have X4 := Lib.hid (X3.out.under hb4)
    have Y4 := Lib.hid (Y3.out.under hb4)
    have HJ4 := Lib.hid (HJ3.out.below hb4)
    have HB4 := Lib.hid (HB3.out.trans (hb4.mono HB3.out.size))
    clear h4 hb4 hI4 q0 q1 q2 q3 q4
    obtain ⟨q0, q1, q2, q3, q4⟩ := job_box X4.out
    go_wp2_with fail
    refine (HCR.out _ HB4.out).mono ?_
    intro e w5 h5
    obtain ⟨⟨A5, c5, rfl, hI5⟩, hb5⟩ := HCN.out _ _ _ h5
    have I5 := Lib.hid hI5
    have J5 : Hid (Ints w5 w5.heap.size A4 l) := I4.out.up hb5 hb5.size
    have X5 := Lib.hid (X4.out.under hb5)
    have Y5 := Lib.hid (Y4.out.under hb5)
    have HJ5 := Lib.hid (HJ4.out.below hb5)
    have HB5 := Lib.hid (HB4.out.trans (hb5.mono HB4.out.size))
    clear h5 hb5 hI5 q0 q1 q2 q3 q4
    go_wp2_with fail
    refine (HSI.out _ _ _ _ _ J5.out I5.out).mono ?_
    rintro e w6 ⟨rfl, hb6⟩
    have X6 := Lib.hid (X5.out.under hb6)
    have Y6 := Lib.hid (Y5.out.under hb6)
    have HJ6 := Lib.hid (HJ5.out.below hb6)
    have HB6 := Lib.hid (HB5.out.trans (hb6.mono HB5.out.size))
    clear hb6
    obtain ⟨q0, q1, q2, q3, q4⟩ := job_box X6.out
    obtain ⟨r0, r1, r2, r3, r4⟩ := job_box Y6.out
    go_wp2_with fail
    refine (HSA.out _ _ HJ6.out HB6.out).mono ?_
    rintro e w7 ⟨rfl, hb7⟩
    have HB7 := Lib.hid (HB6.out.trans (hb7.mono HB6.out.size))
    clear hb7 q0 q1 q2 q3 q4 r0 r1 r2 r3 r4
    go_wp2_with fail
    refine (law05_awake _).mono ?_
    rintro e w8 ⟨rfl, hb8⟩
    go_wp2_with fail
    go_ret
    exact ⟨rfl, HB7.out.trans (hb8.mono HB7.out.size)⟩

end Go.Proofs.Ytannipfohicpmaa
