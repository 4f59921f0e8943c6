/- Walks of the package path, at the path that TopStatic shows awake: roots, the check. -/
import Derived.Test.YtnhnheigdlnokaaPath
namespace Go.Proofs.Ytnhnheigdlnokaa
open Go.RowKit Go.Shelf Mpl
attribute [local go_sem] Oper.semAt_some

/-- the root, bit by bit -/
def rootRun : Nat → Int → Int → Int
  | 0, r, _ => r
  | k + 1, r, b => rootRun k (if (r + b) * (r + b) ≤ 2500000000 then r + b else r) (b / 2)
theorem root_all : rootRun 26 0 33554432 = 50000 := by decide +kernel

set_option maxHeartbeats 1000000 in
theorem path_Root (w : World) : Calls Try.prog 46 #[.int .i64 2500000000] w fun e w' => e = .returned (.tuple #[.int .i64 50000, .bool true]) ∧ Below w.heap.size w w' := by
  have HR := Lib.hid root_all
  go_enter Try.func46, Try.ntmps46
  go_wp2_with fail
  go_loopw [4, 5] (fun s4 s5 wr => ∃ (k : Nat) (r b : Int), k ≤ 26 ∧ s4 = .int .i64 r ∧ s5 = .int .i64 b ∧ 0 ≤ r ∧ 0 ≤ b ∧ r + 2 * b ≤ 67108864 ∧ b = (2 : Int) ^ k / 2 ∧ Hid (rootRun k r b = 50000) ∧ Hid (Below w.heap.size w wr)) (fun _ s5 _ => (intOf s5).toNat)
  case atStart => exact ⟨26, 0, 33554432, by omega, rfl, rfl, by omega, by omega, by omega, by decide +kernel, HR, Below.refl _ _⟩
  case round =>
    obtain ⟨k, r, b, hk, rfl, rfl, hr, hb, hrb, hz, hrun, BW⟩ := hrel
    by_cases hk0 : k = 0
    · subst hk0
      obtain rfl : b = 0 := hz
      have hr5 : r = 50000 := hrun.out
      subst hr5
      go_wp2_with fail
      go_ret2
      exact ⟨rfl, BW.out⟩
    · obtain ⟨m, rfl⟩ : ∃ m, k = m + 1 := ⟨k - 1, by omega⟩
      have hpow : (2 : Int) ^ (m + 1) / 2 = 2 ^ m := by rw [Int.pow_succ]; omega
      rw [hpow] at hz
      have hpos : (0 : Int) < 2 ^ m := Int.pow_pos (by omega)
      have hz2 : b / 2 = (2 : Int) ^ m / 2 := by rw [hz]
      have hbp : 0 < b := by omega
      have HZ := Lib.hid hz2
      clear hpow hz hz2 hpos
      have t0 : decide (0 < b) = true := decide_eq_true (by omega)
      have hm0 : 0 ≤ (r + b) * (r + b) := Int.mul_nonneg (by omega) (by omega)
      have hm1 : (r + b) * (r + b) ≤ 67108864 * 67108864 := Int.mul_le_mul (by omega) (by omega) (by omega) (by omega)
      have hrun' : Hid (rootRun m (if (r + b) * (r + b) ≤ 2500000000 then r + b else r) (b / 2) = 50000) := hrun.out
      have twr : IntKind.i64.wrap (r + b) = r + b := IntWalk.i64_in _ (by omega)
      have twm : IntKind.i64.wrap ((r + b) * (r + b)) = (r + b) * (r + b) := IntWalk.i64_in _ (by omega)
      clear hrun
      generalize hq : (r + b) * (r + b) = q at *
      clear hm0 hm1
      by_cases hle : q ≤ 2500000000
      · rw [if_pos hle] at hrun'
        have t1 : decide (q ≤ 2500000000) = true := decide_eq_true hle
        clear hle
        go_wp2_with fail
        go_roundw
        case rel => exact ⟨m, r + b, b / 2, by omega, rfl, rfl, by omega, by omega, by omega, HZ.out, hrun', BW⟩
        case measure => simp [intOf]; omega
      · rw [if_neg hle] at hrun'
        have t1 : decide (q ≤ 2500000000) = false := decide_eq_false hle
        clear hle
        go_wp2_with fail
        go_roundw
        case rel => exact ⟨m, r, b / 2, by omega, rfl, rfl, by omega, by omega, by omega, HZ.out, hrun', BW⟩
        case measure => simp [intOf]; omega

theorem vec_cells {w : World} {g t : Nat} {a b c : Value} (h : Box w g t #[a, b, c]) : w.cell? ⟨g, 0, none⟩ = some a ∧ w.cell? ⟨g, 1, none⟩ = some b ∧ w.cell? ⟨g, 2, none⟩ = some c := ⟨h.cell 0, h.cell 1, h.cell 2⟩

theorem whole_a (w : World) : Calls Try.prog 35 #[.agg #[.int .i64 0, .int .i64 0, .int .i64 50000]] w fun e w' => e = .returned (.tuple #[.int .i64 50000, .bool true]) ∧ Below w.heap.size w w' := by
  have b0 := Lib.hid (Box.new w 87 #[.int .i64 0, .int .i64 0, .int .i64 50000] rfl)
  have hB := Lib.hid ((Below.refl w.heap.size w).alloc (Nat.le_refl _) (.cells #[.int .i64 0, .int .i64 0, .int .i64 50000] 87))
  go_enter Try.func35, Try.ntmps35
  go_wp2_with fail
  refine (inside_a _).mono ?_
  rintro e w1 ⟨rfl, hb1⟩
  have X1 := Lib.hid (b0.out.under hb1)
  have hB1 := Lib.hid (hB.out.trans (hb1.mono hB.out.size))
  clear hb1
  obtain ⟨q0, q1, q2⟩ := vec_cells X1.out
  go_wp2_with fail
  refine (dot_aa _).mono ?_
  rintro e w2 ⟨rfl, hb2⟩
  have hB2 := Lib.hid (hB1.out.trans (hb2.mono hB1.out.size))
  clear hb2 q0 q1 q2
  go_wp2_with fail
  refine (path_Root _).mono ?_
  rintro e w3 ⟨rfl, hb3⟩
  go_wp2_with fail
  go_ret2
  exact ⟨rfl, hB2.out.trans (hb3.mono hB2.out.size)⟩

theorem whole_b (w : World) : Calls Try.prog 35 #[.agg #[.int .i64 0, .int .i64 30000, .int .i64 40000]] w fun e w' => e = .returned (.tuple #[.int .i64 50000, .bool true]) ∧ Below w.heap.size w w' := by
  have b0 := Lib.hid (Box.new w 87 #[.int .i64 0, .int .i64 30000, .int .i64 40000] rfl)
  have hB := Lib.hid ((Below.refl w.heap.size w).alloc (Nat.le_refl _) (.cells #[.int .i64 0, .int .i64 30000, .int .i64 40000] 87))
  go_enter Try.func35, Try.ntmps35
  go_wp2_with fail
  refine (inside_b _).mono ?_
  rintro e w1 ⟨rfl, hb1⟩
  have X1 := Lib.hid (b0.out.under hb1)
  have hB1 := Lib.hid (hB.out.trans (hb1.mono hB.out.size))
  clear hb1
  obtain ⟨q0, q1, q2⟩ := vec_cells X1.out
  go_wp2_with fail
  refine (dot_bb _).mono ?_
  rintro e w2 ⟨rfl, hb2⟩
  have hB2 := Lib.hid (hB1.out.trans (hb2.mono hB1.out.size))
  clear hb2 q0 q1 q2
  go_wp2_with fail
  refine (path_Root _).mono ?_
  rintro e w3 ⟨rfl, hb3⟩
  go_wp2_with fail
  go_ret2
  exact ⟨rfl, hB2.out.trans (hb3.mono hB2.out.size)⟩

end Go.Proofs.Ytnhnheigdlnokaa
