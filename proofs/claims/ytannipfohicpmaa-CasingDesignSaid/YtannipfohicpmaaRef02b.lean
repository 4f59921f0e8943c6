/- Walks of the reference of layer 2: the value of a line at a place. -/
import Derived.Test.YtannipfohicpmaaRef02
import Derived.Test.YtannipfohicpmaaStill
import Derived.RegionTactic
import Derived.BigRegion
namespace Go.Proofs.Ytannipfohicpmaa
open Go.RowKit Go.Shelf Mpl

set_option maxHeartbeats 1000000 in
theorem ref02_CheckLine (v0 : Value) (ks : List Knot) (at_ v : Int) (w : World) (hv : LineV w w.heap.size v0 ks) :
    Calls Try.prog 101 #[v0, .int .i64 at_, .int .i64 v] w fun e w' => e = .returned (.int .i64 (checkLine ks at_ v)) ∧ Below w.heap.size w w' := by
  obtain ⟨A, c, rfl, hk⟩ := hv
  by_cases hr : 0 ≤ at_ ∧ at_ ≤ 1099511627776 ∧ 0 ≤ v ∧ v ≤ 68719476736
  case neg =>
    have hs : Hid (checkLine ks at_ v = 2) := by unfold Hid checkLine; rw [if_pos]; simp [within]; omega
    have hc : at_ < 0 ∨ (0 ≤ at_ ∧ 1099511627776 < at_) ∨ (0 ≤ at_ ∧ at_ ≤ 1099511627776 ∧ v < 0) ∨ (0 ≤ at_ ∧ at_ ≤ 1099511627776 ∧ 0 ≤ v ∧ 68719476736 < v) := by omega
    clear hk hr
    generalize ks.length = n at *
    rcases hc with h1 | ⟨h1, h2⟩ | ⟨h1, h2, h3⟩ | ⟨h1, h2, h3, h4⟩
    · have d1 : decide (at_ < 0) = true := decide_eq_true (by omega)
      go_enter Try.func101, Try.ntmps101
      go_wp2_with fail
      go_ret
      exact ⟨ret_int hs.out.symm, (by repeat (first | exact Below.refl _ _ | assumption | refine Below.setCell ?_ (by first | (simp; done) | (simp; omega)) _ | refine belowDrewN ?_ _ | refine Below.drew ?_ | refine Below.alloc ?_ (by first | (simp; done) | (simp; omega)) _))⟩
    · have d1 : decide (at_ < 0) = false := decide_eq_false (by omega)
      have d2 : decide (1099511627776 < at_) = true := decide_eq_true (by omega)
      go_enter Try.func101, Try.ntmps101
      go_wp2_with fail
      go_ret
      exact ⟨ret_int hs.out.symm, (by repeat (first | exact Below.refl _ _ | assumption | refine Below.setCell ?_ (by first | (simp; done) | (simp; omega)) _ | refine belowDrewN ?_ _ | refine Below.drew ?_ | refine Below.alloc ?_ (by first | (simp; done) | (simp; omega)) _))⟩
    · have d1 : decide (at_ < 0) = false := decide_eq_false (by omega)
      have d2 : decide (1099511627776 < at_) = false := decide_eq_false (by omega)
      have d3 : decide (v < 0) = true := decide_eq_true (by omega)
      go_enter Try.func101, Try.ntmps101
      go_wp2_with fail
      go_ret
      exact ⟨ret_int hs.out.symm, (by repeat (first | exact Below.refl _ _ | assumption | refine Below.setCell ?_ (by first | (simp; done) | (simp; omega)) _ | refine belowDrewN ?_ _ | refine Below.drew ?_ | refine Below.alloc ?_ (by first | (simp; done) | (simp; omega)) _))⟩
    · have d1 : decide (at_ < 0) = false := decide_eq_false (by omega)
      have d2 : decide (1099511627776 < at_) = false := decide_eq_false (by omega)
      have d3 : decide (v < 0) = false := decide_eq_false (by omega)
      have d4 : decide (68719476736 < v) = true := decide_eq_true (by omega)
      go_enter Try.func101, Try.ntmps101
      go_wp2_with fail
      go_ret
      exact ⟨ret_int hs.out.symm, (by repeat (first | exact Below.refl _ _ | assumption | refine Below.setCell ?_ (by first | (simp; done) | (simp; omega)) _ | refine belowDrewN ?_ _ | refine Below.drew ?_ | refine Below.alloc ?_ (by first | (simp; done) | (simp; omega)) _))⟩
  obtain ⟨h1, h2, h3, h4⟩ := hr
  have d1 : decide (at_ < 0) = false := decide_eq_false (by omega)
  have d2 : decide (1099511627776 < at_) = false := decide_eq_false (by omega)
  have d3 : decide (v < 0) = false := decide_eq_false (by omega)
  have d4 : decide (68719476736 < v) = false := decide_eq_false (by omega)
  have hw1 : within at_ 0 1099511627776 = true := by simp [within]; omega
  have hw2 : within v 0 68719476736 = true := by simp [within]; omega
  by_cases h0 : ks.length = 0
  · have hs : Hid (checkLine ks at_ v = 6) := by simp [checkLine, hw1, hw2, h0, Hid]
    clear hk hw1 hw2
    rw [h0]
    have hz : (((0 : Nat) : Int) == 0) = true := by simp
    clear h0
    go_enter Try.func101, Try.ntmps101
    go_wp2_with fail
    go_ret
    exact ⟨ret_int hs.out.symm, (by repeat (first | exact Below.refl _ _ | assumption | refine Below.setCell ?_ (by first | (simp; done) | (simp; omega)) _ | refine belowDrewN ?_ _ | refine Below.drew ?_ | refine Below.alloc ?_ (by first | (simp; done) | (simp; omega)) _))⟩
  by_cases h24 : 24 < ks.length
  · have hs : Hid (checkLine ks at_ v = 8) := by simp [checkLine, hw1, hw2, h0, h24, Hid]
    clear hk hw1 hw2
    have hz : ((ks.length : Int) == 0) = false := beq_eq_false_iff_ne.2 (by omega)
    have hz2 : decide ((24 : Int) < (ks.length : Int)) = true := decide_eq_true (by omega)
    clear h0
    generalize ks.length = n at *
    go_enter Try.func101, Try.ntmps101
    go_wp2_with fail
    go_ret
    exact ⟨ret_int hs.out.symm, (by repeat (first | exact Below.refl _ _ | assumption | refine Below.setCell ?_ (by first | (simp; done) | (simp; omega)) _ | refine belowDrewN ?_ _ | refine Below.drew ?_ | refine Below.alloc ?_ (by first | (simp; done) | (simp; omega)) _))⟩
  obtain ⟨b, off, rfl, hb, hc⟩ := hk.out (by omega)
  have hs : checkLine ks at_ v = checkKnots at_ v (-1) ks := by simp [checkLine, hw1, hw2, h0, h24]
  rw [hs]
  exact ref02_CheckLine_loop ks b off c at_ v w hb hc (by omega) (by omega) h1 h2 h3 h4

set_option maxHeartbeats 1000000 in
theorem ref02_right (v0 : Value) (ks : List Knot) (w : World) (hv : LineV w w.heap.size v0 ks) :
    Calls Try.prog 103 #[v0] w fun e w' => e = .returned (.bool (right ks)) ∧ Below w.heap.size w w' := by
  have HV := Lib.hid hv
  obtain ⟨A, c, rfl, _⟩ := hv
  have HC1 := Lib.hid (fun W (hW : Below w.heap.size w W) => ref02_CheckLine _ ks 1048576 68719476736 W (HV.out.below hW))
  have HC2 := Lib.hid (fun W (hW : Below w.heap.size w W) => ref02_CheckLine _ ks 1099511627776 1048576 W (HV.out.below hW))
  have hR : Hid (right ks = (decide (checkLine ks 1048576 68719476736 = 0) || decide (checkLine ks 1099511627776 1048576 = 0))) := rfl
  generalize right ks = res at *
  generalize checkLine ks 1048576 68719476736 = e1 at *
  generalize checkLine ks 1099511627776 1048576 = e2 at *
  generalize ks.length = n at *
  have B0 := Lib.hid (Box.new w 24 #[.slice A n c] rfl)
  have HB := Lib.hid ((Below.refl w.heap.size w).alloc (Nat.le_refl _) (.cells #[.slice A n c] 24))
  by_cases h1 : e1 = 0
  · have h1' : (e1 == 0) = true := by simpa using h1
    go_enter Try.func103, Try.ntmps103
    go_wp2_with fail
    refine (HC1.out _ HB.out).mono ?_
    rintro e w1 ⟨rfl, hb1⟩
    go_wp2_with fail
    go_ret
    exact ⟨ret_bool (by rw [hR.out]; simp [h1]), HB.out.trans (hb1.mono HB.out.size)⟩
  · have h1' : (e1 == 0) = false := by simpa using h1
    go_enter Try.func103, Try.ntmps103
    go_wp2_with fail
    refine (HC1.out _ HB.out).mono ?_
    rintro e w1 ⟨rfl, hb1⟩
    have hB1 := HB.out.trans (hb1.mono HB.out.size)
    have q0 := (B0.out.under hb1).cell 0
    simp only [List.getElem?_toArray, List.getElem?_cons_zero] at q0
    go_wp2_with fail
    refine (HC2.out _ hB1).mono ?_
    rintro e w2 ⟨rfl, hb2⟩
    go_wp2_with fail
    go_ret
    exact ⟨ret_bool (by rw [hR.out]; simp only [h1, decide_false, Bool.false_or]; rfl), hB1.trans (hb2.mono hB1.size)⟩

theorem ref02_floor (a b : Int) (w : World) (hb : 0 < b) (ha1 : -4611686018427387904 ≤ a) (ha2 : a ≤ 4611686018427387904) (hb2 : b ≤ 4611686018427387904) :
    Calls Try.prog 114 #[.int .i64 a, .int .i64 b] w fun e w' => e = .returned (.int .i64 (a / b)) ∧ w' = w := by
  have hz : (b == 0) = false := beq_eq_false_iff_ne.2 (by omega)
  have hf := Lib.hid (floor_eq a b hb)
  have hd1 : -4611686018427387904 ≤ a / b := Int.le_ediv_of_mul_le hb (by have := Int.mul_le_mul_of_nonneg_left (show (1 : Int) ≤ b by omega) (show (0 : Int) ≤ 4611686018427387904 by omega); omega)
  by_cases hm : a.tmod b < 0
  · have hm' : decide (a.tmod b < 0) = true := decide_eq_true hm
    go_enter Try.func114, Try.ntmps114
    go_wp2
    go_ret
    have := hf.out
    rw [if_pos hm] at this
    refine ⟨ret_int ?_, rfl⟩
    rw [this]
    refine IntWalk.wrap64_in _ ⟨by omega, ?_⟩
    have h2 : a / b ≤ 4611686018427387904 / b := Int.ediv_le_ediv hb ha2
    have h3 : (4611686018427387904 : Int) / b ≤ 4611686018427387904 := Int.ediv_le_self _ (by omega)
    omega
  · go_enter Try.func114, Try.ntmps114
    go_wp2
    go_ret
    have := hf.out
    rw [if_neg (by omega)] at this
    exact ⟨ret_int this.symm, rfl⟩

end Go.Proofs.Ytannipfohicpmaa
