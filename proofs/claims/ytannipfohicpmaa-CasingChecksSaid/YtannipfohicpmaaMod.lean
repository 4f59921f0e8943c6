/- Walks of moonpoolkit: Mod64, Mod. -/
import Derived.Test.YtannipfohicpmaaProven
namespace Go.Proofs.Ytannipfohicpmaa
open Go.RowKit Go.Shelf Mpl

theorem tmod_neg {n m : Int} (hn : n < 0) (hm : 0 < m) : (n.tmod m < 0 ∧ n.tmod m + m = n % m ∧ -m < n.tmod m) ∨ (n.tmod m = 0 ∧ n % m = 0) := by
  have h1 : n.tmod m = -((-n) % m) := by
    rw [show n = -(-n) by omega, Int.neg_tmod, Int.tmod_eq_emod_of_nonneg (by omega), Int.neg_neg]
  have h2 := Int.emod_nonneg (-n) (show m ≠ 0 by omega)
  have h3 := Int.emod_lt_of_pos (-n) hm
  have h4 := Int.emod_nonneg n (show m ≠ 0 by omega)
  have h5 := Int.emod_lt_of_pos n hm
  have e1 := Int.mul_ediv_add_emod n m
  have e2 := Int.mul_ediv_add_emod (-n) m
  have e3 : m * (n / m + (-n) / m) = -(n % m + (-n) % m) := by rw [Int.mul_add]; omega
  rw [h1]
  by_cases hz : (-n) % m = 0
  · right
    refine ⟨by omega, ?_⟩
    have h6 : m ∣ -n := Int.dvd_of_emod_eq_zero hz
    exact Int.emod_eq_zero_of_dvd ((Int.dvd_neg).1 h6)
  · left
    refine ⟨by omega, ?_, by omega⟩
    have h7 : m * (n / m + (-n) / m) < 0 := by omega
    have h8 : -(2 * m) < m * (n / m + (-n) / m) := by omega
    have h9 : n / m + (-n) / m = -1 := by
      have a1 : n / m + (-n) / m < 0 := by
        rcases Int.lt_or_le (n / m + (-n) / m) 0 with h | h
        · exact h
        · have := Int.mul_nonneg (show 0 ≤ m by omega) h; omega
      have a2 : -2 < n / m + (-n) / m := by
        rcases Int.lt_or_le (-2) (n / m + (-n) / m) with h | h
        · exact h
        · have := Int.mul_le_mul_of_nonneg_left h (show 0 ≤ m by omega); omega
      omega
    rw [h9] at e3
    omega

set_option maxHeartbeats 1000000 in
theorem kit_Mod64 (n m : Int) (w : World) (hn : inI64 n) (hm : 0 < m) (hm2 : m ≤ 4611686018427387904) :
    Calls Try.prog 34 #[.int .i64 n, .int .i64 m] w fun e w' => e = .returned (.int .i64 (n % m)) ∧ w = w' := by
  obtain ⟨h1, h2⟩ := hn
  have hz : (m == 0) = false := beq_eq_false_iff_ne.2 (by omega)
  by_cases h0 : 0 ≤ n
  · have h3 := Int.emod_nonneg n (show m ≠ 0 by omega)
    have h4 : decide (n % m < 0) = false := decide_eq_false (by omega)
    go_enter Try.func34, Try.ntmps34
    go_wp2_with fail
    go_ret
    exact ⟨rfl, rfl⟩
  · rcases tmod_neg (show n < 0 by omega) hm with ⟨h3, h4, h5⟩ | ⟨h3, h4⟩
    · have h6 : decide (n.tmod m < 0) = true := decide_eq_true h3
      have H4 := Lib.hid h4
      clear h4
      generalize n % m = q at *
      go_enter Try.func34, Try.ntmps34
      go_wp2_with fail
      go_ret
      exact ⟨ret_int H4.out, rfl⟩
    · have H4 := Lib.hid h4
      clear h4
      generalize n % m = q at *
      go_enter Try.func34, Try.ntmps34
      go_wp2_with fail
      go_ret
      exact ⟨ret_int H4.out.symm, rfl⟩
set_option maxHeartbeats 1000000 in
theorem kit_Mod (n m : Int) (w : World) (hn : inI64 n) (hm : 0 < m) (hm2 : m ≤ 4611686018427387904) :
    Calls Try.prog 31 #[.int .i64 n, .int .i64 m] w fun e w' => e = .returned (.int .i64 (n % m)) ∧ w = w' := by
  obtain ⟨h1, h2⟩ := hn
  have hz : (m == 0) = false := beq_eq_false_iff_ne.2 (by omega)
  by_cases h0 : 0 ≤ n
  · have h3 := Int.emod_nonneg n (show m ≠ 0 by omega)
    have h4 : decide (n % m < 0) = false := decide_eq_false (by omega)
    go_enter Try.func31, Try.ntmps31
    go_wp2_with fail
    go_ret
    exact ⟨rfl, rfl⟩
  · rcases tmod_neg (show n < 0 by omega) hm with ⟨h3, h4, h5⟩ | ⟨h3, h4⟩
    · have h6 : decide (n.tmod m < 0) = true := decide_eq_true h3
      have H4 := Lib.hid h4
      clear h4
      generalize n % m = q at *
      go_enter Try.func31, Try.ntmps31
      go_wp2_with fail
      go_ret
      exact ⟨ret_int H4.out, rfl⟩
    · have H4 := Lib.hid h4
      clear h4
      generalize n % m = q at *
      go_enter Try.func31, Try.ntmps31
      go_wp2_with fail
      go_ret
      exact ⟨ret_int H4.out.symm, rfl⟩
end Go.Proofs.Ytannipfohicpmaa
