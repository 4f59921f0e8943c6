/- Walks of the package path, at the path that TopStatic shows awake. (Printed by gen_path.py.) -/
import Derived.Test.YtnhnheigdlnokaaIter3
import Derived.Test.YtnhnheigdlnokaaFVolume
import Derived.Test.YtnhnheigdlnokaaKit
namespace Go.Proofs.Ytnhnheigdlnokaa
open Go.RowKit Go.Shelf Mpl
attribute [local go_sem] Oper.semAt_some

theorem inside_a (w : World) : Calls Try.prog 45 #[.agg #[.int .i64 0, .int .i64 0, .int .i64 50000], .int .i64 16777216] w fun e w' => e = .returned (.bool true) ∧ Below w.heap.size w w' := by
  go_enter Try.func45, Try.ntmps45
  go_wp2_with fail
  go_ret
  exact ⟨rfl, (by repeat (first | exact Below.refl _ _ | assumption | refine Below.setCell ?_ (by first | (simp; done) | (simp; omega)) _ | refine belowDrewN ?_ _ | refine Below.drew ?_ | refine Below.alloc ?_ (by first | (simp; done) | (simp; omega)) _))⟩

theorem inside_b (w : World) : Calls Try.prog 45 #[.agg #[.int .i64 0, .int .i64 30000, .int .i64 40000], .int .i64 16777216] w fun e w' => e = .returned (.bool true) ∧ Below w.heap.size w w' := by
  go_enter Try.func45, Try.ntmps45
  go_wp2_with fail
  go_ret
  exact ⟨rfl, (by repeat (first | exact Below.refl _ _ | assumption | refine Below.setCell ?_ (by first | (simp; done) | (simp; omega)) _ | refine belowDrewN ?_ _ | refine Below.drew ?_ | refine Below.alloc ?_ (by first | (simp; done) | (simp; omega)) _))⟩

theorem inside_z1 (w : World) : Calls Try.prog 45 #[.agg #[.int .i64 0, .int .i64 0, .int .i64 0], .int .i64 1048576] w fun e w' => e = .returned (.bool true) ∧ Below w.heap.size w w' := by
  go_enter Try.func45, Try.ntmps45
  go_wp2_with fail
  go_ret
  exact ⟨rfl, (by repeat (first | exact Below.refl _ _ | assumption | refine Below.setCell ?_ (by first | (simp; done) | (simp; omega)) _ | refine belowDrewN ?_ _ | refine Below.drew ?_ | refine Below.alloc ?_ (by first | (simp; done) | (simp; omega)) _))⟩

theorem inside_a1 (w : World) : Calls Try.prog 45 #[.agg #[.int .i64 0, .int .i64 0, .int .i64 50000], .int .i64 1048576] w fun e w' => e = .returned (.bool true) ∧ Below w.heap.size w w' := by
  go_enter Try.func45, Try.ntmps45
  go_wp2_with fail
  go_ret
  exact ⟨rfl, (by repeat (first | exact Below.refl _ _ | assumption | refine Below.setCell ?_ (by first | (simp; done) | (simp; omega)) _ | refine belowDrewN ?_ _ | refine Below.drew ?_ | refine Below.alloc ?_ (by first | (simp; done) | (simp; omega)) _))⟩

theorem inside_ab1 (w : World) : Calls Try.prog 45 #[.agg #[.int .i64 0, .int .i64 30000, .int .i64 90000], .int .i64 1048576] w fun e w' => e = .returned (.bool true) ∧ Below w.heap.size w w' := by
  go_enter Try.func45, Try.ntmps45
  go_wp2_with fail
  go_ret
  exact ⟨rfl, (by repeat (first | exact Below.refl _ _ | assumption | refine Below.setCell ?_ (by first | (simp; done) | (simp; omega)) _ | refine belowDrewN ?_ _ | refine Below.drew ?_ | refine Below.alloc ?_ (by first | (simp; done) | (simp; omega)) _))⟩

theorem dot_aa (w : World) : Calls Try.prog 36 #[.agg #[.int .i64 0, .int .i64 0, .int .i64 50000], .agg #[.int .i64 0, .int .i64 0, .int .i64 50000]] w fun e w' => e = .returned (.int .i64 2500000000) ∧ Below w.heap.size w w' := by
  go_enter Try.func36, Try.ntmps36
  go_wp2_with fail
  go_ret
  exact ⟨rfl, (by repeat (first | exact Below.refl _ _ | assumption | refine Below.setCell ?_ (by first | (simp; done) | (simp; omega)) _ | refine belowDrewN ?_ _ | refine Below.drew ?_ | refine Below.alloc ?_ (by first | (simp; done) | (simp; omega)) _))⟩

theorem dot_bb (w : World) : Calls Try.prog 36 #[.agg #[.int .i64 0, .int .i64 30000, .int .i64 40000], .agg #[.int .i64 0, .int .i64 30000, .int .i64 40000]] w fun e w' => e = .returned (.int .i64 2500000000) ∧ Below w.heap.size w w' := by
  go_enter Try.func36, Try.ntmps36
  go_wp2_with fail
  go_ret
  exact ⟨rfl, (by repeat (first | exact Below.refl _ _ | assumption | refine Below.setCell ?_ (by first | (simp; done) | (simp; omega)) _ | refine belowDrewN ?_ _ | refine Below.drew ?_ | refine Below.alloc ?_ (by first | (simp; done) | (simp; omega)) _))⟩

theorem dot_ab (w : World) : Calls Try.prog 36 #[.agg #[.int .i64 0, .int .i64 0, .int .i64 50000], .agg #[.int .i64 0, .int .i64 30000, .int .i64 40000]] w fun e w' => e = .returned (.int .i64 2000000000) ∧ Below w.heap.size w w' := by
  go_enter Try.func36, Try.ntmps36
  go_wp2_with fail
  go_ret
  exact ⟨rfl, (by repeat (first | exact Below.refl _ _ | assumption | refine Below.setCell ?_ (by first | (simp; done) | (simp; omega)) _ | refine belowDrewN ?_ _ | refine Below.drew ?_ | refine Below.alloc ?_ (by first | (simp; done) | (simp; omega)) _))⟩

theorem plus_za (w : World) : Calls Try.prog 37 #[.agg #[.int .i64 0, .int .i64 0, .int .i64 0], .agg #[.int .i64 0, .int .i64 0, .int .i64 50000]] w fun e w' => e = .returned (.agg #[.int .i64 0, .int .i64 0, .int .i64 50000]) ∧ Below w.heap.size w w' := by
  go_enter Try.func37, Try.ntmps37
  go_wp2_with fail
  have b0 : Box (((w.alloc (.cells #[.int .i64 0, .int .i64 0, .int .i64 0] 87)).alloc (.cells #[.int .i64 0, .int .i64 0, .int .i64 50000] 87)).alloc (.cells #[.int .i64 0, .int .i64 0, .int .i64 50000] 87)) (w.heap.size + 1 + 1) 87 #[.int .i64 0, .int .i64 0, .int .i64 50000] := Box.new _ _ _ (by simp)
  have q0 := b0.cell 0
  have q1 := b0.cell 1
  have q2 := b0.cell 2
  simp only [List.getElem?_toArray, List.getElem?_cons_zero, List.getElem?_cons_succ] at q0 q1 q2
  refine bodyPost_ret (results_cell1 rfl _ _ _ (w.heap.size + 1 + 1) (.agg #[.int .i64 0, .int .i64 0, .int .i64 50000]) rfl (by simp [go_sem, q0, q1, q2])) rfl ?_
  exact ⟨rfl, (by repeat (first | exact Below.refl _ _ | assumption | refine Below.setCell ?_ (by first | (simp; done) | (simp; omega)) _ | refine belowDrewN ?_ _ | refine Below.drew ?_ | refine Below.alloc ?_ (by first | (simp; done) | (simp; omega)) _))⟩

theorem plus_ab (w : World) : Calls Try.prog 37 #[.agg #[.int .i64 0, .int .i64 0, .int .i64 50000], .agg #[.int .i64 0, .int .i64 30000, .int .i64 40000]] w fun e w' => e = .returned (.agg #[.int .i64 0, .int .i64 30000, .int .i64 90000]) ∧ Below w.heap.size w w' := by
  go_enter Try.func37, Try.ntmps37
  go_wp2_with fail
  have b0 : Box (((w.alloc (.cells #[.int .i64 0, .int .i64 0, .int .i64 50000] 87)).alloc (.cells #[.int .i64 0, .int .i64 30000, .int .i64 40000] 87)).alloc (.cells #[.int .i64 0, .int .i64 30000, .int .i64 90000] 87)) (w.heap.size + 1 + 1) 87 #[.int .i64 0, .int .i64 30000, .int .i64 90000] := Box.new _ _ _ (by simp)
  have q0 := b0.cell 0
  have q1 := b0.cell 1
  have q2 := b0.cell 2
  simp only [List.getElem?_toArray, List.getElem?_cons_zero, List.getElem?_cons_succ] at q0 q1 q2
  refine bodyPost_ret (results_cell1 rfl _ _ _ (w.heap.size + 1 + 1) (.agg #[.int .i64 0, .int .i64 30000, .int .i64 90000]) rfl (by simp [go_sem, q0, q1, q2])) rfl ?_
  exact ⟨rfl, (by repeat (first | exact Below.refl _ _ | assumption | refine Below.setCell ?_ (by first | (simp; done) | (simp; omega)) _ | refine belowDrewN ?_ _ | refine Below.drew ?_ | refine Below.alloc ?_ (by first | (simp; done) | (simp; omega)) _))⟩

theorem valid_z (w : World) : Calls Try.prog 34 #[.agg #[.int .i64 0, .int .i64 0, .int .i64 0]] w fun e w' => e = .returned (.bool true) ∧ Below w.heap.size w w' := by
  have b0 := Lib.hid (Box.new w 87 #[.int .i64 0, .int .i64 0, .int .i64 0] rfl)
  have hB := Lib.hid ((Below.refl w.heap.size w).alloc (Nat.le_refl _) (.cells #[.int .i64 0, .int .i64 0, .int .i64 0] 87))
  go_enter Try.func34, Try.ntmps34
  go_wp2_with fail
  refine (inside_z1 _).mono ?_
  rintro e w1 ⟨rfl, hb1⟩
  have q2 := (show w1.cell? ⟨w.heap.size, 2, none⟩ = some (.int .i64 0) from (b0.out.under hb1).cell 2)
  have hB1 := Lib.hid (hB.out.trans (hb1.mono hB.out.size))
  clear hb1
  go_wp2_with fail
  go_ret
  exact ⟨rfl, hB1.out⟩

theorem valid_a (w : World) : Calls Try.prog 34 #[.agg #[.int .i64 0, .int .i64 0, .int .i64 50000]] w fun e w' => e = .returned (.bool true) ∧ Below w.heap.size w w' := by
  have b0 := Lib.hid (Box.new w 87 #[.int .i64 0, .int .i64 0, .int .i64 50000] rfl)
  have hB := Lib.hid ((Below.refl w.heap.size w).alloc (Nat.le_refl _) (.cells #[.int .i64 0, .int .i64 0, .int .i64 50000] 87))
  go_enter Try.func34, Try.ntmps34
  go_wp2_with fail
  refine (inside_a1 _).mono ?_
  rintro e w1 ⟨rfl, hb1⟩
  have q2 := (show w1.cell? ⟨w.heap.size, 2, none⟩ = some (.int .i64 50000) from (b0.out.under hb1).cell 2)
  have hB1 := Lib.hid (hB.out.trans (hb1.mono hB.out.size))
  clear hb1
  go_wp2_with fail
  go_ret
  exact ⟨rfl, hB1.out⟩

theorem valid_ab (w : World) : Calls Try.prog 34 #[.agg #[.int .i64 0, .int .i64 30000, .int .i64 90000]] w fun e w' => e = .returned (.bool true) ∧ Below w.heap.size w w' := by
  have b0 := Lib.hid (Box.new w 87 #[.int .i64 0, .int .i64 30000, .int .i64 90000] rfl)
  have hB := Lib.hid ((Below.refl w.heap.size w).alloc (Nat.le_refl _) (.cells #[.int .i64 0, .int .i64 30000, .int .i64 90000] 87))
  go_enter Try.func34, Try.ntmps34
  go_wp2_with fail
  refine (inside_ab1 _).mono ?_
  rintro e w1 ⟨rfl, hb1⟩
  have q2 := (show w1.cell? ⟨w.heap.size, 2, none⟩ = some (.int .i64 90000) from (b0.out.under hb1).cell 2)
  have hB1 := Lib.hid (hB.out.trans (hb1.mono hB.out.size))
  clear hb1
  go_wp2_with fail
  go_ret
  exact ⟨rfl, hB1.out⟩

end Go.Proofs.Ytnhnheigdlnokaa
