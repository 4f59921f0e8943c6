/- Walks of the package fluid: the pressure in a column. -/
import Derived.Test.YtnhnheigdlnokaaFColumn
import Derived.Test.YtnhnheigdlnokaaFMono
namespace Go.Proofs.Ytnhnheigdlnokaa
open Go.RowKit Go.Shelf Mpl

theorem ret_rng {a b c d : Int} (h1 : a = c) (h2 : b = d) : Ending.returned (.agg #[.int .i64 a, .int .i64 b]) = .returned (.agg #[.int .i64 c, .int .i64 d]) := by rw [h1, h2]

set_option maxHeartbeats 1000000 in
set_option maxRecDepth 100000 in
theorem fluid_add (pl ph wt hl hh : Int) (w : World) (hw0 : -40000 ≤ wt) (hw1 : wt ≤ 40000) (h0 : 0 ≤ hl) (h1 : hl ≤ 1048576) (h2 : 0 ≤ hh) (h3 : hh ≤ 1048576) (p0 : -1000000000000000 ≤ pl) (p1 : pl ≤ 1000000000000000) (p2 : -1000000000000000 ≤ ph) (p3 : ph ≤ 1000000000000000) :
    Calls Try.prog 14 #[.agg #[.int .i64 pl, .int .i64 ph], .int .i64 wt, .agg #[.int .i64 hl, .int .i64 hh]] w fun e w' => e = .returned (.agg #[.int .i64 (addR ⟨pl, ph⟩ wt ⟨hl, hh⟩).Lo, .int .i64 (addR ⟨pl, ph⟩ wt ⟨hl, hh⟩).Hi]) ∧ Below w.heap.size w w' := by
  have m1 := mulw wt hl hw0 hw1 h0 h1
  have m2 := mulw wt hh hw0 hw1 h2 h3
  obtain ⟨m10, m11⟩ := m1
  obtain ⟨m20, m21⟩ := m2
  have hd1 : Hid ((addR ⟨pl, ph⟩ wt ⟨hl, hh⟩).Lo = pl + min (wt * hl) (wt * hh)) := rfl
  have hd2 : Hid ((addR ⟨pl, ph⟩ wt ⟨hl, hh⟩).Hi = ph + max (wt * hl) (wt * hh)) := rfl
  rw [hd1.out, hd2.out]
  clear hd1 hd2
  have x1 : IntKind.i64.wrap (wt * hl) = wt * hl := IntWalk.i64_in _ (by omega)
  have x2 : IntKind.i64.wrap (wt * hh) = wt * hh := IntWalk.i64_in _ (by omega)
  obtain ⟨w0, hw0⟩ : ∃ w0, (((w.alloc (.cells #[.int .i64 pl, .int .i64 ph] 30)).alloc (.cells #[.int .i64 hl, .int .i64 hh] 30)).alloc (.cells #[.int .i64 0, .int .i64 0] 30)) = w0 := ⟨_, rfl⟩
  have b0 : Box w0 w.heap.size 30 #[.int .i64 pl, .int .i64 ph] := by rw [← hw0]; exact ((Box.new w _ _ rfl).alloc _).alloc _
  have b1 : Box w0 (w.heap.size + 1) 30 #[.int .i64 hl, .int .i64 hh] := by rw [← hw0]; exact (Box.new _ _ _ (by simp)).alloc _
  have b2 : Box w0 (w.heap.size + 1 + 1) 30 #[.int .i64 0, .int .i64 0] := by rw [← hw0]; exact Box.new _ _ _ (by simp)
  have hB : Below w.heap.size w w0 := by rw [← hw0]; exact (by repeat (first | exact Below.refl _ _ | assumption | refine Below.setCell ?_ (by first | (simp; done) | (simp; omega)) _ | refine belowDrewN ?_ _ | refine Below.drew ?_ | refine Below.alloc ?_ (by first | (simp; done) | (simp; omega)) _))
  have HW := Lib.hid hw0
  have HB := Lib.hid hB
  have B2 := Lib.hid b2
  obtain ⟨q0, q1⟩ : w0.cell? ⟨w.heap.size, 0, none⟩ = some (.int .i64 pl) ∧ w0.cell? ⟨w.heap.size, 1, none⟩ = some (.int .i64 ph) := ⟨b0.cell 0, b0.cell 1⟩
  obtain ⟨q2, q3⟩ : w0.cell? ⟨w.heap.size + 1, 0, none⟩ = some (.int .i64 hl) ∧ w0.cell? ⟨w.heap.size + 1, 1, none⟩ = some (.int .i64 hh) := ⟨b1.cell 0, b1.cell 1⟩
  obtain ⟨q4, q5⟩ : w0.cell? ⟨w.heap.size + 1 + 1, 0, none⟩ = some (.int .i64 0) ∧ w0.cell? ⟨w.heap.size + 1 + 1, 1, none⟩ = some (.int .i64 0) := ⟨b2.cell 0, b2.cell 1⟩
  obtain ⟨f4, f5⟩ : w0.frozen? ⟨w.heap.size + 1 + 1, 0, none⟩ = false ∧ w0.frozen? ⟨w.heap.size + 1 + 1, 1, none⟩ = false := ⟨b2.frozen 0, b2.frozen 1⟩
  clear hw0 b0 b1 b2 hB
  by_cases hd : wt * hl < wt * hh
  · have hm1 := Lib.hid (show min (wt * hl) (wt * hh) = wt * hl by omega)
    have hm2 := Lib.hid (show max (wt * hl) (wt * hh) = wt * hh by omega)
    rw [hm1.out, hm2.out]
    clear hm1 hm2
    have hc : wt * hl ≤ wt * hh := by omega
    have x1 : IntKind.i64.wrap (wt * hl) = wt * hl := IntWalk.i64_in _ (by omega)
    have x2 : IntKind.i64.wrap (wt * hh) = wt * hh := IntWalk.i64_in _ (by omega)
    go_enter Try.func14, Try.ntmps14
    go_wp2_with fail
    rw [HW.out]
    go_quiet (fail)
    clear x1 x2
    go_wp2_with fail
    refine bodyPost_ret (results_cell1 rfl _ _ _ (w.heap.size + 1 + 1) _ rfl (load_rng (t := 30) (by simpa using (((B2.out.drewN nq).set_ 0 (.int .i64 (pl + wt * hl))).set_ 1 (.int .i64 (ph + wt * hh)))))) rfl ⟨rfl, ?_⟩
    exact ((belowDrewN HB.out nq).setCell (p := ⟨w.heap.size + 1 + 1, 0, none⟩) (by simp; omega) _).setCell (p := ⟨w.heap.size + 1 + 1, 1, none⟩) (by simp; omega) _
  · by_cases hc : wt * hl ≤ wt * hh
    · have hm1 := Lib.hid (show min (wt * hl) (wt * hh) = wt * hl by omega)
      have hm2 := Lib.hid (show max (wt * hl) (wt * hh) = wt * hl by omega)
      rw [hm1.out, hm2.out]
      clear hm1 hm2
      have x1 : IntKind.i64.wrap (wt * hl) = wt * hl := IntWalk.i64_in _ (by omega)
      have x2 : IntKind.i64.wrap (wt * hh) = wt * hh := IntWalk.i64_in _ (by omega)
      go_enter Try.func14, Try.ntmps14
      go_wp2_with fail
      rw [HW.out]
      go_quiet (fail)
      clear x1 x2
      go_wp2_with fail
      refine bodyPost_ret (results_cell1 rfl _ _ _ (w.heap.size + 1 + 1) _ rfl (load_rng (t := 30) (by simpa using (((B2.out.drewN nq).set_ 0 (.int .i64 (pl + wt * hl))).set_ 1 (.int .i64 (ph + wt * hl)))))) rfl ⟨rfl, ?_⟩
      exact ((belowDrewN HB.out nq).setCell (p := ⟨w.heap.size + 1 + 1, 0, none⟩) (by simp; omega) _).setCell (p := ⟨w.heap.size + 1 + 1, 1, none⟩) (by simp; omega) _
    · have hm1 := Lib.hid (show min (wt * hl) (wt * hh) = wt * hh by omega)
      have hm2 := Lib.hid (show max (wt * hl) (wt * hh) = wt * hl by omega)
      rw [hm1.out, hm2.out]
      clear hm1 hm2
      have x1 : IntKind.i64.wrap (wt * hl) = wt * hl := IntWalk.i64_in _ (by omega)
      have x2 : IntKind.i64.wrap (wt * hh) = wt * hh := IntWalk.i64_in _ (by omega)
      go_enter Try.func14, Try.ntmps14
      go_wp2_with fail
      rw [HW.out]
      go_quiet (fail)
      clear x1 x2
      go_wp2_with fail
      refine bodyPost_ret (results_cell1 rfl _ _ _ (w.heap.size + 1 + 1) _ rfl (load_rng (t := 30) (by simpa using (((B2.out.drewN nq).set_ 0 (.int .i64 (pl + wt * hh))).set_ 1 (.int .i64 (ph + wt * hl)))))) rfl ⟨rfl, ?_⟩
      exact ((belowDrewN HB.out nq).setCell (p := ⟨w.heap.size + 1 + 1, 0, none⟩) (by simp; omega) _).setCell (p := ⟨w.heap.size + 1 + 1, 1, none⟩) (by simp; omega) _

end Go.Proofs.Ytnhnheigdlnokaa
