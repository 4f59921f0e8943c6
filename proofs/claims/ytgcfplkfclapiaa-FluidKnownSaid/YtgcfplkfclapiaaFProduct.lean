/- Walks of the package fluid: products of two words. -/
import Derived.Test.YtgcfplkfclapiaaFWide
namespace Mpl
def prodN (l : List Int) : Nat := l.foldl (fun p x => p * x.toNat) 1
theorem prodN_step (l : List Int) (k : Nat) (h : k < l.length) : prodN (l.take (k + 1)) = prodN (l.take k) * (pick l k).toNat := by
  rw [List.take_succ_eq_append_getElem h, prodN, List.foldl_append]
  simp [prodN, pick, h]
theorem wide_mul (p n : Nat) (_hn : n < 18446744073709551616) :
    ((p % 340282366920938463463374607431768211456 / 18446744073709551616) * n % 18446744073709551616 + (p % 340282366920938463463374607431768211456 % 18446744073709551616) * n / 18446744073709551616) % 18446744073709551616 = p * n % 340282366920938463463374607431768211456 / 18446744073709551616 ∧
    (p % 340282366920938463463374607431768211456 % 18446744073709551616) * n % 18446744073709551616 = p * n % 340282366920938463463374607431768211456 % 18446744073709551616 := by
  have e0 : p * n % 340282366920938463463374607431768211456 = (p % 340282366920938463463374607431768211456) * n % 340282366920938463463374607431768211456 := by rw [Nat.mod_mul_mod]
  rw [e0]
  generalize p % 340282366920938463463374607431768211456 = v
  have e1 : v * n = (v / 18446744073709551616 * n) * 18446744073709551616 + v % 18446744073709551616 * n := by
    rw [Nat.mul_assoc, Nat.mul_comm n, ← Nat.mul_assoc, ← Nat.add_mul, Nat.div_add_mod']
  rw [e1]
  generalize v / 18446744073709551616 * n = a
  generalize v % 18446744073709551616 * n = b
  omega
end Mpl
namespace Go.Proofs.Ytgcfplkfclapiaa
open Go.RowKit Go.Shelf Mpl

theorem wide_hi (H L m : Nat) : IntKind.u64.wrap (IntKind.u64.wrap ((H : Int) * (m : Int)) + (L : Int) * (m : Int) / 18446744073709551616) = (((H * m % 18446744073709551616 + L * m / 18446744073709551616) % 18446744073709551616 : Nat) : Int) := by
  rw [IntKind.wrap_u64, IntKind.wrap_u64, ← Int.natCast_mul, ← Int.natCast_mul]
  omega
theorem wide_lo (L m : Nat) : (L : Int) * (m : Int) % 18446744073709551616 = ((L * m % 18446744073709551616 : Nat) : Int) := by
  rw [← Int.natCast_mul]
  omega
theorem prodN_zero (l : List Int) : prodN (l.take 0) = 1 := by simp [prodN]

set_option maxHeartbeats 2000000 in
set_option maxRecDepth 100000 in
theorem fluid_product (l : List Int) (A : Option Addr) (c : Nat) (w : World) (hl : Ints w w.heap.size A l) (hin : ∀ i, i < l.length → 0 ≤ pick l i ∧ pick l i ≤ 4611686018427387904) (hm : l.length ≤ 100) (hp : prodN l < 340282366920938463463374607431768211456) :
    Calls Try.prog 99 #[.slice A l.length c] w fun e w' => e = .returned (wideV (prodN l)) ∧ Below w.heap.size w w' := by
  have HL := Lib.hid hl
  have HIN := Lib.hid hin
  have HP := Lib.hid hp
  clear hl hin hp
  generalize hn : l.length = n at *
  have HN := Lib.hid hn
  clear hn
  obtain ⟨w0, hw0⟩ : ∃ w0, (w.alloc (.cells #[.int .u64 0, .int .u64 0] 147)).alloc (.cells #[.int .u64 0, .int .u64 1] 147) = w0 := ⟨_, rfl⟩
  have b0 : Box w0 w.heap.size 147 #[.int .u64 0, .int .u64 0] := by rw [← hw0]; exact (Box.new w _ _ rfl).alloc _
  have b1 : Box w0 (w.heap.size + 1) 147 #[.int .u64 0, .int .u64 1] := by rw [← hw0]; exact Box.new _ _ _ (by simp)
  have hB0 : Below w.heap.size w w0 := by rw [← hw0]; exact (by repeat (first | exact Below.refl _ _ | assumption | refine Below.setCell ?_ (by first | (simp; done) | (simp; omega)) _ | refine belowDrewN ?_ _ | refine Below.drew ?_ | refine Below.alloc ?_ (by first | (simp; done) | (simp; omega)) _))
  have HW0 := Lib.hid hw0
  clear hw0
  go_enter Try.func99, Try.ntmps99
  go_wp2_with fail
  rw [HW0.out]
  go_loopw [11] (fun s11 wr => ∃ k : Nat, k ≤ n ∧ s11 = .int .i64 k ∧ Hid (Box wr w.heap.size 147 #[.int .u64 0, .int .u64 0]) ∧ Hid (Box wr (w.heap.size + 1) 147 #[.int .u64 ((prodN (l.take k) % 340282366920938463463374607431768211456 / 18446744073709551616 : Nat) : Int), .int .u64 ((prodN (l.take k) % 340282366920938463463374607431768211456 % 18446744073709551616 : Nat) : Int)]) ∧ Hid (Below w.heap.size w wr)) (fun s11 _ => n - (intOf s11).toNat)
  case atStart => exact ⟨0, Nat.zero_le _, rfl, b0, by unfold Hid; rw [prodN_zero]; exact b1, hB0⟩
  case round =>
    obtain ⟨k, hk, rfl, C0, C1, BW⟩ := hrel
    by_cases hlt : k < n
    · obtain ⟨b, off, rfl, hb, hc⟩ := HL.out (by rw [HN.out]; omega)
      have d0 := oldCell BW.out hb (hc k (by rw [HN.out]; exact hlt))
      obtain ⟨i0, i1⟩ := HIN.out k (by omega)
      obtain ⟨m, hm⟩ : ∃ m : Nat, pick l k = (m : Int) := ⟨(pick l k).toNat, by omega⟩
      have hst := prodN_step l k (by rw [HN.out]; exact hlt)
      rw [hm, Int.toNat_natCast] at hst
      have hwm := wide_mul (prodN (l.take k)) m (by omega)
      rw [← hst] at hwm
      have HWM := Lib.hid hwm
      rw [hm] at d0 i1
      clear hc hst hwm hm i0
      generalize prodN (l.take k) = P0 at *
      obtain ⟨q0, q1⟩ := wide_box C1.out
      obtain ⟨f0, f1⟩ := wide_free C1.out
      have hh0 : P0 % 340282366920938463463374607431768211456 / 18446744073709551616 < 18446744073709551616 := by omega
      have hl0 : P0 % 340282366920938463463374607431768211456 % 18446744073709551616 < 18446744073709551616 := by omega
      generalize P0 % 340282366920938463463374607431768211456 / 18446744073709551616 = H at *
      generalize P0 % 340282366920938463463374607431768211456 % 18446744073709551616 = L at *
      have HMU := Lib.hid (fun w => bits_mul L m hl0 (by omega) w)
      go_wp2_with (go_at_call 115; refine (HMU.out _).mono ?_; rintro e w' ⟨rfl, rfl⟩)
      go_roundw
      case rel =>
        refine ⟨k + 1, hlt, by go_num, (C0.out.far (by simp) _).far (by simp) _, ?_, (BW.out.setCell (p := ⟨w.heap.size + 1, 0, none⟩) (by simp) _).setCell (p := ⟨w.heap.size + 1, 1, none⟩) (by simp) _⟩
        have h1 := (C1.out.set_ 0 (.int .u64 (IntKind.u64.wrap (IntKind.u64.wrap ((H : Int) * (m : Int)) + (L : Int) * (m : Int) / 18446744073709551616)))).set_ 1 (.int .u64 ((L : Int) * (m : Int) % 18446744073709551616))
        unfold Hid
        rw [← HWM.out.1, ← HWM.out.2, ← wide_hi, ← wide_lo]
        simpa using h1
      case measure => simp [intOf]; omega
    · obtain rfl : k = n := by omega
      have hx : l.take k = l := List.take_of_length_le (by rw [HN.out]; omega)
      have C2 := C1.out
      rw [hx, Nat.mod_eq_of_lt HP.out] at C2
      have HC2 := Lib.hid C2
      obtain ⟨q0, q1⟩ := wide_box C2
      obtain ⟨q2, q3⟩ := wide_box C0.out
      obtain ⟨f0, f1⟩ := wide_free C0.out
      clear hx C2 C1
      have hv : Hid (wideV (prodN l) = .agg #[.int .u64 ((prodN l / 18446744073709551616 : Nat) : Int), .int .u64 ((prodN l % 18446744073709551616 : Nat) : Int)]) := rfl
      clear HP
      generalize prodN l / 18446744073709551616 = H at *
      generalize prodN l % 18446744073709551616 = Lw at *
      go_wp2_with fail
      refine bodyPost_ret (results_cell1 rfl _ _ _ w.heap.size _ rfl (load_wide (t := 147) (by simpa using (C0.out.set_ 0 (.int .u64 (H : Int))).set_ 1 (.int .u64 (Lw : Int))))) rfl ⟨by rw [hv.out], ?_⟩
      exact (BW.out.setCell (p := ⟨w.heap.size, 0, none⟩) (by simp) _).setCell (p := ⟨w.heap.size, 1, none⟩) (by simp) _

theorem ret_u2 {a b c d : Int} (h1 : a = c) (h2 : b = d) : Ending.returned (.agg #[.int .u64 a, .int .u64 b]) = .returned (.agg #[.int .u64 c, .int .u64 d]) := by rw [h1, h2]

set_option maxHeartbeats 2000000 in
set_option maxRecDepth 100000 in
theorem wide_plus (a b : Nat) (w : World) (h : a + b < 340282366920938463463374607431768211456) :
    Calls Try.prog 100 #[wideV a, wideV b] w fun e w' => e = .returned (wideV (a + b)) ∧ Below w.heap.size w w' := by
  have HA := Lib.hid (fun x y (hx : 0 ≤ x) (hy : 0 ≤ y) w => bits_add x y hx hy w)
  have hs1 : (a % 18446744073709551616 + b % 18446744073709551616) % 18446744073709551616 = (a + b) % 18446744073709551616 := by omega
  have hs2 : a / 18446744073709551616 + b / 18446744073709551616 + (a % 18446744073709551616 + b % 18446744073709551616) / 18446744073709551616 = (a + b) / 18446744073709551616 := by omega
  have hb : (a + b) / 18446744073709551616 < 18446744073709551616 := by omega
  have hv : Hid (wideV (a + b) = .agg #[.int .u64 (((a + b) / 18446744073709551616 : Nat) : Int), .int .u64 (((a + b) % 18446744073709551616 : Nat) : Int)]) := rfl
  unfold wideV
  have HS1 := Lib.hid hs1
  have HS2 := Lib.hid hs2
  rw [← hs1, ← hs2] at hv
  rw [← hs2] at hb
  clear hs1 hs2 HS1 HS2 h
  rw [show (.agg #[.int .u64 (((a + b) / 18446744073709551616 : Nat) : Int), .int .u64 (((a + b) % 18446744073709551616 : Nat) : Int)] : Value) = wideV (a + b) from rfl, hv.out]
  clear hv
  have l1 : a % 18446744073709551616 < 18446744073709551616 := by omega
  have l2 : b % 18446744073709551616 < 18446744073709551616 := by omega
  generalize a / 18446744073709551616 = a1 at *
  generalize a % 18446744073709551616 = a0 at *
  generalize b / 18446744073709551616 = b1 at *
  generalize b % 18446744073709551616 = b0 at *
  have hadd := HA.out (a0 : Int) (b0 : Int) (by omega) (by omega)
  go_enter Try.func100, Try.ntmps100
  go_wp2_with fail
  refine bodyPost_ret (results_cell1 rfl _ _ _ (w.heap.size + 1 + 1) _ rfl (load_wide (t := 147) (Box.new _ _ _ (by simp)))) rfl ⟨ret_u2 (by omega) (by omega), (by repeat (first | exact Below.refl _ _ | assumption | refine Below.setCell ?_ (by first | (simp; done) | (simp; omega)) _ | refine belowDrewN ?_ _ | refine Below.drew ?_ | refine Below.alloc ?_ (by first | (simp; done) | (simp; omega)) _))⟩

theorem run_eql_wide (x0 x1 y0 y1 : Int) (w : World) : (binOp .eql 147 (.agg #[.int .u64 x0, .int .u64 x1]) (.agg #[.int .u64 y0, .int .u64 y1])).run Try.prog w = .ok (.bool (x0 == y0 && x1 == y1)) w := by
  have u3 := Try.underlying145
  have a3 := Try.isAgg145
  have z3 := Try.sizeOf145
  have hS : Try.prog.underlying 147 = some (.struct (Try.prog.fieldsOf 147)) := by kernel_rfl
  have hp : Try.prog.stoodInHeld 147 = false := by kernel_rfl
  rw [run_eql_struct, show (10000 : Nat) = 9999 + 1 from rfl, run_equalIn_agg w 9999 147 _ _ hS hp]
  simp only [Program.fieldsOf, Try.underlying147]
  go_simp
  by_cases h1 : x0 = y0 <;> by_cases h2 : x1 = y1 <;> simp [h1, h2]

set_option maxHeartbeats 2000000 in
set_option maxRecDepth 100000 in
theorem wide_least (a b : Nat) (w : World) (ha : a < 340282366920938463463374607431768211456) (hb : b < 340282366920938463463374607431768211456) :
    Calls Try.prog 101 #[wideV a, wideV b] w fun e w' => e = .returned (.bool (decide (b ≤ a))) ∧ Below w.heap.size w w' := by
  have hq := run_eql_wide
  unfold wideV
  have l1 : a % 18446744073709551616 < 18446744073709551616 := by omega
  have l2 : b % 18446744073709551616 < 18446744073709551616 := by omega
  have l3 : a / 18446744073709551616 < 18446744073709551616 := by omega
  have l4 : b / 18446744073709551616 < 18446744073709551616 := by omega
  have e1 := Nat.div_add_mod' a 18446744073709551616
  have e2 := Nat.div_add_mod' b 18446744073709551616
  generalize a / 18446744073709551616 = a1 at *
  generalize a % 18446744073709551616 = a0 at *
  generalize b / 18446744073709551616 = b1 at *
  generalize b % 18446744073709551616 = b0 at *
  subst e1
  subst e2
  clear ha hb
  rcases Nat.lt_trichotomy a1 b1 with h | h | h
  · have hd : Hid (decide (b1 * 18446744073709551616 + b0 ≤ a1 * 18446744073709551616 + a0) = false) := decide_eq_false (by omega)
    have t1 : ((a1 : Int) == (b1 : Int)) = false := beq_eq_false_iff_ne.2 (by omega)
    have t2 : decide (b1 < a1) = false := decide_eq_false (by omega)
    have t3 : (a1 == b1) = false := beq_eq_false_iff_ne.2 (by omega)
    rw [hd.out]
    clear hd h
    go_enter Try.func101, Try.ntmps101
    go_wp2_with fail
    go_ret
    exact ⟨rfl, (by repeat (first | exact Below.refl _ _ | assumption | refine Below.setCell ?_ (by first | (simp; done) | (simp; omega)) _ | refine belowDrewN ?_ _ | refine Below.drew ?_ | refine Below.alloc ?_ (by first | (simp; done) | (simp; omega)) _))⟩
  · subst h
    have t2 : decide (a1 < a1) = false := decide_eq_false (by omega)
    have t4 : ((a1 : Int) == (a1 : Int)) = true := by simp
    rcases Nat.lt_trichotomy a0 b0 with h | h | h
    · have hd : Hid (decide (a1 * 18446744073709551616 + b0 ≤ a1 * 18446744073709551616 + a0) = false) := decide_eq_false (by omega)
      have t3 : (a0 == b0) = false := beq_eq_false_iff_ne.2 (by omega)
      have t5 : ((a0 : Int) == (b0 : Int)) = false := beq_eq_false_iff_ne.2 (by omega)
      have t6 : decide (b0 < a0) = false := decide_eq_false (by omega)
      rw [hd.out]
      clear hd h
      go_enter Try.func101, Try.ntmps101
      go_wp2_with fail
      go_ret
      exact ⟨rfl, (by repeat (first | exact Below.refl _ _ | assumption | refine Below.setCell ?_ (by first | (simp; done) | (simp; omega)) _ | refine belowDrewN ?_ _ | refine Below.drew ?_ | refine Below.alloc ?_ (by first | (simp; done) | (simp; omega)) _))⟩
    · subst h
      have hd : Hid (decide (a1 * 18446744073709551616 + a0 ≤ a1 * 18446744073709551616 + a0) = true) := decide_eq_true (by omega)
      have t5 : ((a0 : Int) == (a0 : Int)) = true := by simp
      rw [hd.out]
      clear hd
      go_enter Try.func101, Try.ntmps101
      go_wp2_with fail
      go_ret
      exact ⟨rfl, (by repeat (first | exact Below.refl _ _ | assumption | refine Below.setCell ?_ (by first | (simp; done) | (simp; omega)) _ | refine belowDrewN ?_ _ | refine Below.drew ?_ | refine Below.alloc ?_ (by first | (simp; done) | (simp; omega)) _))⟩
    · have hd : Hid (decide (a1 * 18446744073709551616 + b0 ≤ a1 * 18446744073709551616 + a0) = true) := decide_eq_true (by omega)
      have t3 : (a0 == b0) = false := beq_eq_false_iff_ne.2 (by omega)
      have t5 : ((a0 : Int) == (b0 : Int)) = false := beq_eq_false_iff_ne.2 (by omega)
      have t6 : decide (b0 < a0) = true := decide_eq_true (by omega)
      rw [hd.out]
      clear hd h
      go_enter Try.func101, Try.ntmps101
      go_wp2_with fail
      go_ret
      exact ⟨rfl, (by repeat (first | exact Below.refl _ _ | assumption | refine Below.setCell ?_ (by first | (simp; done) | (simp; omega)) _ | refine belowDrewN ?_ _ | refine Below.drew ?_ | refine Below.alloc ?_ (by first | (simp; done) | (simp; omega)) _))⟩
  · have hd : Hid (decide (b1 * 18446744073709551616 + b0 ≤ a1 * 18446744073709551616 + a0) = true) := decide_eq_true (by omega)
    have t1 : ((a1 : Int) == (b1 : Int)) = false := beq_eq_false_iff_ne.2 (by omega)
    have t2 : decide (b1 < a1) = true := decide_eq_true (by omega)
    have t3 : (a1 == b1) = false := beq_eq_false_iff_ne.2 (by omega)
    rw [hd.out]
    clear hd h
    go_enter Try.func101, Try.ntmps101
    go_wp2_with fail
    go_ret
    exact ⟨rfl, (by repeat (first | exact Below.refl _ _ | assumption | refine Below.setCell ?_ (by first | (simp; done) | (simp; omega)) _ | refine belowDrewN ?_ _ | refine Below.drew ?_ | refine Below.alloc ?_ (by first | (simp; done) | (simp; omega)) _))⟩

end Go.Proofs.Ytgcfplkfclapiaa
