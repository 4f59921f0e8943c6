/- The law CasingCements, walked. -/
import Derived.Test.YtbbgbidpglhkfaaPackCement
namespace Go.Proofs.Ytbbgbidpglhkfaa
open Go.RowKit Go.Shelf Mpl

set_option maxHeartbeats 8000000 in
set_option maxRecDepth 100000 in
theorem walk_CasingCements (l : List Seg) (v0 : Value) (v : Int) (w : World) (hv : HoleV w w.heap.size v0 l) (hin : SegsIn l) (hm : l.length ≤ maxLen) (_hu : inI64 v) :
    Calls Try.prog 3 #[v0, .int .i64 v] w fun e w' => e = .returned (.bool true) ∧ Below w.heap.size w w' := by
  have HV := Lib.hid hv
  obtain ⟨A, c, rfl, _⟩ := hv
  have H1 := Lib.hid (fun W (hW : Below w.heap.size w W) => casing_Cement _ l v W (HV.out.below hW) hin hm)
  have H2 := Lib.hid (fun W (hW : Below w.heap.size w W) => ref05_Cement _ l v W (HV.out.below hW))
  have hq := run_eql_rngC
  clear hin
  generalize cement l v = res at *
  generalize l.length = n at *
  obtain ⟨⟨rl, rh⟩, re⟩ := res
  have e1 : (rl == rl) = true := beq_self_eq_true rl
  have e2 : (rh == rh) = true := beq_self_eq_true rh
  have e3 : (re == re) = true := beq_self_eq_true re
  have HB := Lib.hid ((Below.refl w.heap.size w).alloc (Nat.le_refl _) (.cells #[.slice A n c] 24))
  have B0 := Lib.hid (Box.new w 24 #[.slice A n c] rfl)
  by_cases h18 : 18 < n
  · have t1 : decide (18 < n) = true := decide_eq_true h18
    have t2 : decide ((18 : Int) < (n : Int)) = true := decide_eq_true (by omega)
    go_enter Try.func3, Try.ntmps3
    go_wp2_with fail
    refine (law05_awake _).mono ?_
    rintro e w2 ⟨rfl, hb2⟩
    go_wp2_with fail
    go_ret
    exact ⟨rfl, HB.out.trans (hb2.mono HB.out.size)⟩
  have t1 : decide (18 < n) = false := decide_eq_false h18
  have t2 : decide ((18 : Int) < (n : Int)) = false := decide_eq_false (by omega)
  go_enter Try.func3, Try.ntmps3
  go_wp2_with fail
  refine (H1.out _ HB.out).mono ?_
  rintro e w1 ⟨rfl, hb1⟩
  have B1 := Lib.hid (B0.out.under hb1)
  have HB1 := Lib.hid (HB.out.trans (hb1.mono HB.out.size))
  clear hb1
  obtain ⟨w2, hw2⟩ : ∃ w2, w1.alloc (.cells #[.int .i64 rl, .int .i64 rh] 27) = w2 := ⟨_, rfl⟩
  have hb2 : Below w1.heap.size w1 w2 := by rw [← hw2]; exact (Below.refl _ _).alloc (Nat.le_refl _) _
  have R1 := Lib.hid (show Box w2 w1.heap.size 27 #[.int .i64 rl, .int .i64 rh] by rw [← hw2]; exact Box.new _ _ _ rfl)
  have B2 := Lib.hid (B1.out.under hb2)
  have HB2 := Lib.hid (HB1.out.trans (hb2.mono HB1.out.size))
  have HW2 := Lib.hid hw2
  clear hw2 hb2
  have q0 := hole_box B2.out
  go_upto_region 4 with fail
  rw [HW2.out]
  go_wp2_with fail
  refine (H2.out _ HB2.out).mono ?_
  rintro e w3 ⟨rfl, hb3⟩
  have R3 := Lib.hid (R1.out.under hb3)
  have HB3 := Lib.hid (HB2.out.trans (hb3.mono HB2.out.size))
  clear hb3 q0
  obtain ⟨w4, hw4⟩ : ∃ w4, w3.alloc (.cells #[.int .i64 rl, .int .i64 rh] 27) = w4 := ⟨_, rfl⟩
  have hb4 : Below w3.heap.size w3 w4 := by rw [← hw4]; exact (Below.refl _ _).alloc (Nat.le_refl _) _
  have S4 := Lib.hid (show Box w4 w3.heap.size 27 #[.int .i64 rl, .int .i64 rh] by rw [← hw4]; exact Box.new _ _ _ rfl)
  have R4 := Lib.hid (R3.out.under hb4)
  have HB4 := Lib.hid (HB3.out.trans (hb4.mono HB3.out.size))
  have HW4 := Lib.hid hw4
  clear hw4 hb4
  have x0 := (show w4.cell? ⟨w1.heap.size, 0, none⟩ = some (.int .i64 rl) from R4.out.cell 0)
  have x1 := (show w4.cell? ⟨w1.heap.size, 1, none⟩ = some (.int .i64 rh) from R4.out.cell 1)
  have x2 := (show w4.cell? ⟨w3.heap.size, 0, none⟩ = some (.int .i64 rl) from S4.out.cell 0)
  have x3 := (show w4.cell? ⟨w3.heap.size, 1, none⟩ = some (.int .i64 rh) from S4.out.cell 1)
  go_upto_region 5 with fail
  rw [HW4.out]
  go_wp2_with fail
  refine (law05_awake _).mono ?_
  rintro e w5 ⟨rfl, hb5⟩
  go_wp2_with fail
  go_ret
  exact ⟨rfl, HB4.out.trans (hb5.mono HB4.out.size)⟩

end Go.Proofs.Ytbbgbidpglhkfaa
