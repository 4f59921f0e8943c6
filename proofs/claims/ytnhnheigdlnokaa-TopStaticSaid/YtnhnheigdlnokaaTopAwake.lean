/- What TopStatic shows awake. (Printed by gen_top.py.) -/
import Derived.Test.YtnhnheigdlnokaaPath6
import Derived.Test.YtnhnheigdlnokaaEarth4
namespace Go.Proofs.Ytnhnheigdlnokaa
open Go.RowKit Go.Shelf Mpl

theorem run_eql_rngT (x0 x1 y0 y1 : Int) (w : World) : (binOp .eql 30 (.agg #[.int .i64 x0, .int .i64 x1]) (.agg #[.int .i64 y0, .int .i64 y1])).run Try.prog w = .ok (.bool (x0 == y0 && x1 == y1)) w := by
  have u3 := Try.underlying2
  have a3 := Try.isAgg2
  have z3 := Try.sizeOf2
  have hS : Try.prog.underlying 30 = some (.struct (Try.prog.fieldsOf 30)) := by kernel_rfl
  have hp : Try.prog.stoodInHeld 30 = false := by kernel_rfl
  rw [run_eql_struct, show (10000 : Nat) = 9999 + 1 from rfl, run_equalIn_agg w 9999 30 _ _ hS hp]
  simp only [Program.fieldsOf, Try.underlying30]
  go_simp
  by_cases h1 : x0 = y0 <;> by_cases h2 : x1 = y1 <;> simp [h1, h2]

theorem vert_at : (At (vertK 2) 75000).Lo = 70000 ∧ (At (vertK 2) 75000).Hi = 70000 := by decide +kernel

set_option maxHeartbeats 2000000 in
theorem top_awake (w : World) : Calls Try.prog 8 #[] w fun e w' => e = .returned (.bool true) ∧ Below w.heap.size w w' := by
  have hq := run_eql_rngT
  have HAT := Lib.hid (fun A c W (hv : LineV W W.heap.size (.agg #[.slice A 3 c]) (vertK 2)) => (by have := earth_At (vertK 2) _ 75000 W hv; rw [vert_at.1, vert_at.2] at this; exact this :
    Calls Try.prog 16 #[.agg #[.slice A 3 c], .int .i64 75000] W fun e w' => e = .returned (.agg #[.int .i64 70000, .int .i64 70000]) ∧ Below W.heap.size W w'))
  obtain ⟨w1, hw1⟩ : ∃ w1, (w.alloc (.cells #[.int .i64 0, .int .i64 0, .int .i64 50000, .int .i64 0, .int .i64 30000, .int .i64 40000] 69)).alloc (.cells #[.int .i64 0, .int .i64 0, .int .i64 0, .slice (some ⟨w.heap.size, 0, none⟩) 2 2] 72) = w1 := ⟨_, rfl⟩
  have hb1 : Below w.heap.size w w1 := by rw [← hw1]; exact (by repeat (first | exact Below.refl _ _ | assumption | refine Below.setCell ?_ (by first | (simp; done) | (simp; omega)) _ | refine belowDrewN ?_ _ | refine Below.drew ?_ | refine Below.alloc ?_ (by first | (simp; done) | (simp; omega)) _))
  have P1 : PathAt w1 w.heap.size := ⟨by rw [← hw1]; exact (Box.new _ _ _ rfl).alloc _⟩
  have X1 := Lib.hid (show Box w1 (w.heap.size + 1) 72 #[.int .i64 0, .int .i64 0, .int .i64 0, .slice (some ⟨w.heap.size, 0, none⟩) 2 2] by rw [← hw1]; exact Box.new _ _ _ (by simp))
  have HP1 := Lib.hid P1
  have HB1 := Lib.hid hb1
  have HW1 := Lib.hid hw1
  clear hw1 hb1 P1
  obtain ⟨q0, q1, q2, q3⟩ := path_cells X1.out
  go_enter Try.func8, Try.ntmps8
  go_upto_region 2 with fail
  rw [HW1.out]
  go_wp2_with fail
  refine (path_Length _ _ HP1.out).mono ?_
  rintro e w2 ⟨rfl, hb2⟩
  have HP2 := Lib.hid (HP1.out.under hb2)
  have HB2 := Lib.hid (HB1.out.trans (hb2.mono HB1.out.size))
  have X2 := Lib.hid (X1.out.under hb2)
  clear hb2 q0 q1 q2 q3 HW1 X1 HP1 HB1
  obtain ⟨q0, q1, q2, q3⟩ := path_cells X2.out
  go_wp2_with fail
  refine (path_Vert _ _ HP2.out).mono ?_
  rintro e w3 ⟨⟨A, c, rfl, hown⟩, hb3⟩
  have HB3 := Lib.hid (HB2.out.trans (hb3.mono HB2.out.size))
  have HL : Hid (LineV w3 w3.heap.size (.agg #[.slice A 3 c]) (vertK 2)) := ⟨A, c, rfl, Knots.own_slice (l := vertK 2) hown⟩
  clear hb3 hown q0 q1 q2 q3
  go_wp2_with fail
  refine (HAT.out _ _ _ HL.out).mono ?_
  rintro e w4 ⟨rfl, hb4⟩
  go_wp2_with fail
  go_ret
  exact ⟨rfl, HB3.out.trans (hb4.mono HB3.out.size)⟩

end Go.Proofs.Ytnhnheigdlnokaa
