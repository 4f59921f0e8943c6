/- Walks of the reference of layer 2: two lines alike. -/
import Derived.Test.YtkommjjpaklenaaBase
import Derived.Test.YtkommjjpaklenaaEarth3
import Derived.Deep.QuietTactic
import Derived.BigQuiet
namespace Mpl
instance : DecidableEq Knot := fun a b => decidable_of_iff (a.At = b.At ∧ a.V = b.V) (by cases a; cases b; simp)
theorem knot_step {x y : List Knot} {k : Nat} (hx : k < x.length) (hy : k < y.length) : (x.drop k = y.drop k) ↔ ((kn x k).At = (kn y k).At ∧ (kn x k).V = (kn y k).V ∧ x.drop (k + 1) = y.drop (k + 1)) := by
  have e1 : kn x k = x[k] := by simp [kn, hx]
  have e2 : kn y k = y[k] := by simp [kn, hy]
  rw [List.drop_eq_getElem_cons hx, List.drop_eq_getElem_cons hy, e1, e2, List.cons_eq_cons]
  have : ∀ a b : Knot, a = b ↔ a.At = b.At ∧ a.V = b.V := fun a b => by cases a; cases b; simp
  rw [this, and_assoc]
end Mpl
namespace Go.Proofs.Ytkommjjpaklenaa
open Go.RowKit Go.Shelf Mpl

theorem run_neq_knot (x0 x1 y0 y1 : Int) (w : World) : (binOp .neq 55 (.agg #[.int .i64 x0, .int .i64 x1]) (.agg #[.int .i64 y0, .int .i64 y1])).run Try.prog w = .ok (.bool !(x0 == y0 && x1 == y1)) w := by
  have u3 := Try.underlying2
  have a3 := Try.isAgg2
  have z3 := Try.sizeOf2
  have hS : Try.prog.underlying 55 = some (.struct (Try.prog.fieldsOf 55)) := by kernel_rfl
  have hp : Try.prog.stoodInHeld 55 = false := by kernel_rfl
  rw [run_neq_struct, show (10000 : Nat) = 9999 + 1 from rfl, run_equalIn_agg w 9999 55 _ _ hS hp]
  simp only [Program.fieldsOf, Try.underlying55]
  go_simp
  by_cases h1 : x0 = y0 <;> by_cases h2 : x1 = y1 <;> simp [h1, h2]

set_option maxHeartbeats 4000000 in
theorem ref02_SameLine (x y : List Knot) (v0 v1 : Value) (w : World) (hx0 : LineV w w.heap.size v0 x) (hy0 : LineV w w.heap.size v1 y) (hnx : x.length ≤ 1000) (hny : y.length ≤ 1000) :
    Calls Try.prog 28 #[v0, v1] w fun e w' => e = .returned (.bool (decide (x = y))) ∧ Below w.heap.size w w' := by
  obtain ⟨A, c, rfl, hx⟩ := hx0
  obtain ⟨B, d, rfl, hy⟩ := hy0
  have HX := Lib.hid hx
  have HY := Lib.hid hy
  have hst := Lib.hid (fun k => knot_step (x := x) (y := y) (k := k))
  have hnq := run_neq_knot
  generalize hres : decide (x = y) = res
  have HR := Lib.hid hres
  clear hx hy hres
  generalize hn0 : x.length = n0 at *
  generalize hn1 : y.length = n1 at *
  have HN0 := Lib.hid hn0
  have HN1 := Lib.hid hn1
  clear hn0 hn1
  obtain ⟨w0, hw0⟩ : ∃ w0, (w.alloc (.cells #[.slice A n0 c] 49)).alloc (.cells #[.slice B n1 d] 49) = w0 := ⟨_, rfl⟩
  have BX0 := Lib.hid (show Box w0 w.heap.size 49 #[.slice A n0 c] by rw [← hw0]; exact (Box.new w _ _ rfl).alloc _)
  have BY0 := Lib.hid (show Box w0 (w.heap.size + 1) 49 #[.slice B n1 d] by rw [← hw0]; exact Box.new _ _ _ (by simp))
  have HB0 := Lib.hid (show Below w.heap.size w w0 by rw [← hw0]; exact (by repeat (first | exact Below.refl _ _ | assumption | refine Below.setCell ?_ (by first | (simp; done) | (simp; omega)) _ | refine belowDrewN ?_ _ | refine Below.drew ?_ | refine Below.alloc ?_ (by first | (simp; done) | (simp; omega)) _)))
  have HW0 := Lib.hid hw0
  clear hw0
  go_enter Try.func28, Try.ntmps28
  go_wp2_with fail
  rw [HW0.out]
  go_loopw [5] (fun s5 wr => ∃ k : Nat, k ≤ n0 ∧ k ≤ n1 ∧ s5 = .int .i64 k ∧ Hid (decide (x.drop k = y.drop k) = res) ∧ Hid (Below w0.heap.size w0 wr)) (fun s5 _ => n0 - (intOf s5).toNat)
  case atStart => exact ⟨0, Nat.zero_le _, Nat.zero_le _, rfl, HR, Below.refl _ _⟩
  case round =>
    obtain ⟨k, hk0, hk1, rfl, hr, BW0⟩ := hrel
    have BW := Lib.hid (HB0.out.trans (BW0.out.mono HB0.out.size))
    have x0 : wr.cell? ⟨w.heap.size, 0, none⟩ = some (.slice A n0 c) := (BX0.out.under BW0.out).cell 0
    have x1 : wr.cell? ⟨w.heap.size + 1, 0, none⟩ = some (.slice B n1 d) := (BY0.out.under BW0.out).cell 0
    have l0 := (BX0.out.under BW0.out).lt
    have l1 := (BY0.out.under BW0.out).lt
    by_cases h0 : k < n0
    · have t0 : decide (k < n0) = true := decide_eq_true h0
      by_cases h1 : k < n1
      · have t1 : decide (k < n1) = true := decide_eq_true h1
        have hs := Lib.hid (hst.out k h0 h1)
        obtain ⟨ab, ao, rfl, hab, hac⟩ := Knots.out HX.out (by rw [HN0.out]; omega)
        obtain ⟨bb, bo, rfl, hbb, hbc⟩ := Knots.out HY.out (by rw [HN1.out]; omega)
        obtain ⟨c0, c1⟩ : _ ∧ _ := hac k (by rw [HN0.out]; exact h0)
        obtain ⟨e0, e1⟩ := hbc k (by rw [HN1.out]; exact h1)
        replace c0 := oldCell BW.out hab c0
        replace c1 := oldCell BW.out hab c1
        replace e0 := oldCell BW.out hbb e0
        replace e1 := oldCell BW.out hbb e1
        have z1 : (k : Int) < (n0 : Int) := by omega
        have z2 : (k : Int) < (n1 : Int) := by omega
        have z3 : (0 : Int) ≤ (k : Int) := by omega
        clear hac hbc
        generalize (kn x k).At = a0 at *
        generalize (kn x k).V = a1 at *
        generalize (kn y k).At = b0 at *
        generalize (kn y k).V = b1 at *
        by_cases hq : a0 = b0 ∧ a1 = b1
        · have hq' : (!(a0 == b0 && a1 == b1)) = false := by simp [hq]
          have hn : Hid (decide (x.drop (k + 1) = y.drop (k + 1)) = res) := by unfold Hid; rw [← hr.out]; exact decide_eq_decide.2 ⟨fun h => hs.out.2 ⟨hq.1, hq.2, h⟩, fun h => (hs.out.1 h).2.2⟩
          clear hq
          go_wp2_with fail
          go_quiet (fail)
          go_wp2_with fail
          go_roundw
          case rel => exact ⟨k + 1, h0, h1, by go_num, hn, belowDrewN BW0.out _⟩
          case measure => simp [intOf]; omega
        · have hq' : (!(a0 == b0 && a1 == b1)) = true := by
            simp only [Bool.not_eq_true', Bool.and_eq_false_iff, beq_eq_false_iff_ne]
            omega
          have hf : Hid (false = res) := by unfold Hid; rw [← hr.out]; exact (decide_eq_false fun h => hq ⟨(hs.out.1 h).1, (hs.out.1 h).2.1⟩).symm
          clear hq
          go_wp2_with fail
          go_quiet (fail)
          go_wp2_with fail
          go_ret
          exact ⟨ret_bool hf.out, belowDrewN BW.out _⟩
      · obtain rfl : k = n1 := by omega
        have t1 : decide (k < k) = false := decide_eq_false h1
        have t2 : ((n0 : Int) == (k : Int)) = false := beq_eq_false_iff_ne.2 (by omega)
        have t2' : (n0 == k) = false := beq_eq_false_iff_ne.2 (by omega)
        have hf : Hid (false = res) := by
          unfold Hid; rw [← hr.out]
          refine (decide_eq_false fun h => ?_).symm
          have := congrArg List.length h
          simp [HN0.out, HN1.out] at this
          omega
        go_wp2_with fail
        go_ret
        exact ⟨ret_bool hf.out, BW.out⟩
    · obtain rfl : k = n0 := by omega
      have t0 : decide (k < k) = false := decide_eq_false h0
      by_cases h1 : k = n1
      · subst h1
        have hf : Hid (true = res) := by
          unfold Hid; rw [← hr.out, List.drop_eq_nil_of_le (by rw [HN0.out]; omega), List.drop_eq_nil_of_le (by rw [HN1.out]; omega)]; rfl
        go_wp2_with fail
        go_ret
        exact ⟨ret_bool hf.out, BW.out⟩
      · have t2 : ((k : Int) == (n1 : Int)) = false := beq_eq_false_iff_ne.2 (by omega)
        have t2' : (k == n1) = false := beq_eq_false_iff_ne.2 h1
        have hf : Hid (false = res) := by
          unfold Hid; rw [← hr.out]
          refine (decide_eq_false fun h => ?_).symm
          have := congrArg List.length h
          simp [HN0.out, HN1.out] at this
          omega
        go_wp2_with fail
        go_ret
        exact ⟨ret_bool hf.out, BW.out⟩


end Go.Proofs.Ytkommjjpaklenaa
