/- The job that the laws of casing show awake. -/
import Derived.Test.YtannipfohicpmaaChoice
namespace Go.Proofs.Ytannipfohicpmaa
open Go.RowKit Go.Shelf Mpl
attribute [local go_sem] Oper.semAt_some

def line2 (a b c d : Int) : List Knot := [⟨a, b⟩, ⟨c, d⟩]
def shownJob : Job := ⟨[100000, 200000], [⟨line2 0 500000000 200000 2500000000, line2 0 0 200000 2000000000⟩], [⟨600000000, 300000000, 100000000, 300, 5⟩, ⟨400000000, 200000000, 30000000, 200, 3⟩], 1000, 0⟩

theorem results_cell1 {fn : Func} {p : Tmp} {t : TypeId} (h : fn.results = #[.cell p t]) (tmps : Array Value) (w : World) (P : Program) (g : Nat) (v : Value)
    (hp : tmps.getD p undef = .pointer (some ⟨g, 0, none⟩)) (h1 : (loadVar t ⟨g, 0, none⟩).run P w = .ok v w) :
    (results fn tmps).run P w = .ok v w := by
  simp only [results, h]
  rw [Array.getD_eq_getD_getElem?] at hp
  simp [Sem.run_bind, Result.andThen]
  rw [hp]
  simp [go_sem] at h1 ⊢
  rw [h1]

set_option maxHeartbeats 1000000 in
theorem law05_line (a b c d : Int) (w : World) :
    Calls Try.prog 83 #[.int .i64 a, .int .i64 b, .int .i64 c, .int .i64 d] w fun e w' => (∃ g, e = .returned (.agg #[.slice (some ⟨g, 0, none⟩) 2 2]) ∧ w.heap.size ≤ g ∧ Box w' g 71 #[.int .i64 a, .int .i64 b, .int .i64 c, .int .i64 d]) ∧ Below w.heap.size w w' := by
  go_enter Try.func83, Try.ntmps83
  go_wp2_with fail
  have b0 : Box ((w.alloc (.cells #[.slice (some ⟨w.heap.size + 1, 0, none⟩) 2 2] 24)).alloc (.cells #[.int .i64 a, .int .i64 b, .int .i64 c, .int .i64 d] 71)) w.heap.size 24 #[.slice (some ⟨w.heap.size + 1, 0, none⟩) 2 2] := (Box.new w _ _ rfl).alloc _
  have b1 : Box ((w.alloc (.cells #[.slice (some ⟨w.heap.size + 1, 0, none⟩) 2 2] 24)).alloc (.cells #[.int .i64 a, .int .i64 b, .int .i64 c, .int .i64 d] 71)) (w.heap.size + 1) 71 #[.int .i64 a, .int .i64 b, .int .i64 c, .int .i64 d] := Box.new _ _ _ (by simp)
  have q0 := b0.cell 0
  simp only [List.getElem?_toArray, List.getElem?_cons_zero] at q0
  refine bodyPost_ret (results_cell1 rfl _ _ _ w.heap.size (.agg #[.slice (some ⟨w.heap.size + 1, 0, none⟩) 2 2]) rfl (by simp [go_sem, q0])) rfl ?_
  exact ⟨⟨_, rfl, by omega, b1⟩, (by repeat (first | exact Below.refl _ _ | assumption | refine Below.setCell ?_ (by first | (simp; done) | (simp; omega)) _ | refine belowDrewN ?_ _ | refine Below.drew ?_ | refine Below.alloc ?_ (by first | (simp; done) | (simp; omega)) _))⟩

theorem knots2 {w : World} {B g t : Nat} {a b c d : Int} (b1 : Box w g t #[.int .i64 a, .int .i64 b, .int .i64 c, .int .i64 d]) (hB : g < B) : Knots w B (some ⟨g, 0, none⟩) (line2 a b c d) := fun _ => ⟨_, _, rfl, hB, fun i hi j hj => by
  have := b1.cell (0 + i * 2 + j)
  rw [this]
  rcases (show i = 0 ∨ i = 1 by simp [line2] at hi; omega) with rfl | rfl <;> rcases (show j = 0 ∨ j = 1 by omega) with rfl | rfl <;> rfl⟩

set_option maxHeartbeats 1000000 in
theorem law05_shown (w : World) :
    Calls Try.prog 44 #[] w fun e w' => (∃ v, e = .returned v ∧ JobV w' w'.heap.size v shownJob) ∧ Below w.heap.size w w' := by
  go_enter Try.func44, Try.ntmps44
  go_wp2_with fail
  obtain ⟨w0, hw0⟩ : ∃ w0, ((w.alloc (.cells #[.slice none 0 0, .slice none 0 0, .slice none 0 0, .int .i64 0, .int .i64 0] 36)).alloc (.cells #[.int .i64 100000, .int .i64 200000] 2)) = w0 := ⟨_, rfl⟩
  have b0 : Box w0 w.heap.size 36 #[.slice none 0 0, .slice none 0 0, .slice none 0 0, .int .i64 0, .int .i64 0] := by rw [← hw0]; exact (Box.new w _ _ rfl).alloc _
  have b1 : Box w0 (w.heap.size + 1) 2 #[.int .i64 100000, .int .i64 200000] := by rw [← hw0]; exact Box.new _ _ _ (by simp)
  have hB0 : Below w.heap.size w w0 := by rw [← hw0]; exact (by repeat (first | exact Below.refl _ _ | assumption | refine Below.setCell ?_ (by first | (simp; done) | (simp; omega)) _ | refine belowDrewN ?_ _ | refine Below.drew ?_ | refine Below.alloc ?_ (by first | (simp; done) | (simp; omega)) _))
  rw [hw0]
  clear hw0
  refine (law05_line _ _ _ _ _).mono ?_
  have hlt0 := b1.lt
  rintro e w1 ⟨⟨g1, rfl, hg1, h1⟩, hb1⟩
  replace b0 := b0.under hb1
  replace b1 := b1.under hb1
  replace hB0 := hB0.trans (hb1.mono hB0.size)
  have H1 := Lib.hid h1
  clear h1 hb1
  go_wp2_with fail
  refine (law05_line _ _ _ _ _).mono ?_
  have hlt1 := b1.lt
  rintro e w2 ⟨⟨g2, rfl, hg2, h2⟩, hb2⟩
  replace b0 := b0.under hb2
  replace b1 := b1.under hb2
  replace hB0 := hB0.trans (hb2.mono hB0.size)
  have H2 := Lib.hid h2
  replace H1 := Lib.hid (H1.out.under hb2)
  clear h2 hb2
  have HB0 := Lib.hid hB0
  have B0 := Lib.hid b0
  have B1 := Lib.hid b1
  have hs := b0.lt
  have q0 := b0.cell 0
  have q1 := b0.cell 1
  have q2 := b0.cell 2
  have q3 := b0.cell 3
  have q4 := b0.cell 4
  have f0 := b0.frozen 0
  have f1 := b0.frozen 1
  have f2 := b0.frozen 2
  have f3 := b0.frozen 3
  have f4 := b0.frozen 4
  clear b0 b1 hB0
  simp only [List.getElem?_toArray, List.getElem?_cons_zero, List.getElem?_cons_succ] at q0 q1 q2 q3 q4
  go_wp2_with fail
  have e0 := ((((((B0.out.set_ 0 (.slice (some ⟨w.heap.size + 1, 0, none⟩) 2 2)).set_ 1 (.slice (some ⟨w2.heap.size, 0, none⟩) 1 1)).set_ 2 (.slice (some ⟨w2.heap.size + 1, 0, none⟩) 2 2)).set_ 3 (.int .i64 1000)).set_ 4 (.int .i64 0)).alloc (.cells #[.slice (some ⟨g1, 0, none⟩) 2 2, .slice (some ⟨g2, 0, none⟩) 2 2] 26)).alloc (.cells #[.int .i64 600000000, .int .i64 300000000, .int .i64 100000000, .int .i64 300, .int .i64 5, .int .i64 400000000, .int .i64 200000000, .int .i64 30000000, .int .i64 200, .int .i64 3] 63)
  have f5 : ∀ (g t : Nat) (cs : Array Value), g ≠ w.heap.size → Box w2 g t cs → Box (((((((w2.setCell ⟨w.heap.size, 0, none⟩ (.slice (some ⟨w.heap.size + 1, 0, none⟩) 2 2)).setCell ⟨w.heap.size, 1, none⟩ (.slice (some ⟨w2.heap.size, 0, none⟩) 1 1)).setCell ⟨w.heap.size, 2, none⟩ (.slice (some ⟨w2.heap.size + 1, 0, none⟩) 2 2)).setCell ⟨w.heap.size, 3, none⟩ (.int .i64 1000)).setCell ⟨w.heap.size, 4, none⟩ (.int .i64 0)).alloc (.cells #[.slice (some ⟨g1, 0, none⟩) 2 2, .slice (some ⟨g2, 0, none⟩) 2 2] 26)).alloc (.cells #[.int .i64 600000000, .int .i64 300000000, .int .i64 100000000, .int .i64 300, .int .i64 5, .int .i64 400000000, .int .i64 200000000, .int .i64 30000000, .int .i64 200, .int .i64 3] 63)) g t cs :=
    fun g t cs hg h => (((((((h.far hg _).far hg _).far hg _).far hg _).far hg _).alloc _).alloc _)
  have e1 := f5 _ _ _ (by omega) B1.out
  have e2 := f5 _ _ _ (by omega) H1.out
  have e3 := f5 _ _ _ (by omega) H2.out
  have q0 := e0.cell 0
  have q1 := e0.cell 1
  have q2 := e0.cell 2
  have q3 := e0.cell 3
  have q4 := e0.cell 4
  simp only [List.setIfInBounds_toArray, List.set_cons_zero, List.set_cons_succ, List.getElem?_toArray, List.getElem?_cons_zero, List.getElem?_cons_succ] at q0 q1 q2 q3 q4
  refine bodyPost_ret (results_cell1 rfl _ _ _ w.heap.size (.agg #[.slice (some ⟨w.heap.size + 1, 0, none⟩) 2 2, .slice (some ⟨w2.heap.size, 0, none⟩) 1 1, .slice (some ⟨w2.heap.size + 1, 0, none⟩) 2 2, .int .i64 1000, .int .i64 0]) rfl (by simp [go_sem, q0, q1, q2, q3, q4])) rfl ?_
  have e4 : Box _ w2.heap.size 26 #[.slice (some ⟨g1, 0, none⟩) 2 2, .slice (some ⟨g2, 0, none⟩) 2 2] := (Box.new (g := w2.heap.size) (((((w2.setCell ⟨w.heap.size, 0, none⟩ (.slice (some ⟨w.heap.size + 1, 0, none⟩) 2 2)).setCell ⟨w.heap.size, 1, none⟩ (.slice (some ⟨w2.heap.size, 0, none⟩) 1 1)).setCell ⟨w.heap.size, 2, none⟩ (.slice (some ⟨w2.heap.size + 1, 0, none⟩) 2 2)).setCell ⟨w.heap.size, 3, none⟩ (.int .i64 1000)).setCell ⟨w.heap.size, 4, none⟩ (.int .i64 0)) 26 #[.slice (some ⟨g1, 0, none⟩) 2 2, .slice (some ⟨g2, 0, none⟩) 2 2] (by simp)).alloc (.cells #[.int .i64 600000000, .int .i64 300000000, .int .i64 100000000, .int .i64 300, .int .i64 5, .int .i64 400000000, .int .i64 200000000, .int .i64 30000000, .int .i64 200, .int .i64 3] 63)
  have e5 : Box _ (w2.heap.size + 1) 63 #[.int .i64 600000000, .int .i64 300000000, .int .i64 100000000, .int .i64 300, .int .i64 5, .int .i64 400000000, .int .i64 200000000, .int .i64 30000000, .int .i64 200, .int .i64 3] := Box.new (g := w2.heap.size + 1) ((((((w2.setCell ⟨w.heap.size, 0, none⟩ (.slice (some ⟨w.heap.size + 1, 0, none⟩) 2 2)).setCell ⟨w.heap.size, 1, none⟩ (.slice (some ⟨w2.heap.size, 0, none⟩) 1 1)).setCell ⟨w.heap.size, 2, none⟩ (.slice (some ⟨w2.heap.size + 1, 0, none⟩) 2 2)).setCell ⟨w.heap.size, 3, none⟩ (.int .i64 1000)).setCell ⟨w.heap.size, 4, none⟩ (.int .i64 0)).alloc (.cells #[.slice (some ⟨g1, 0, none⟩) 2 2, .slice (some ⟨g2, 0, none⟩) 2 2] 26)) 63 _ (by simp)
  have hBx : Below w.heap.size w (((((((w2.setCell ⟨w.heap.size, 0, none⟩ (.slice (some ⟨w.heap.size + 1, 0, none⟩) 2 2)).setCell ⟨w.heap.size, 1, none⟩ (.slice (some ⟨w2.heap.size, 0, none⟩) 1 1)).setCell ⟨w.heap.size, 2, none⟩ (.slice (some ⟨w2.heap.size + 1, 0, none⟩) 2 2)).setCell ⟨w.heap.size, 3, none⟩ (.int .i64 1000)).setCell ⟨w.heap.size, 4, none⟩ (.int .i64 0)).alloc (.cells #[.slice (some ⟨g1, 0, none⟩) 2 2, .slice (some ⟨g2, 0, none⟩) 2 2] 26)).alloc (.cells #[.int .i64 600000000, .int .i64 300000000, .int .i64 100000000, .int .i64 300, .int .i64 5, .int .i64 400000000, .int .i64 200000000, .int .i64 30000000, .int .i64 200, .int .i64 3] 63)) :=
    ((((((HB0.out.setCell (p := ⟨w.heap.size, 0, none⟩) (Nat.le_refl _) _).setCell (p := ⟨w.heap.size, 1, none⟩) (Nat.le_refl _) _).setCell (p := ⟨w.heap.size, 2, none⟩) (Nat.le_refl _) _).setCell (p := ⟨w.heap.size, 3, none⟩) (Nat.le_refl _) _).setCell (p := ⟨w.heap.size, 4, none⟩) (Nat.le_refl _) _).alloc (by simp; omega) _).alloc (by simp; omega) _
  clear q0 q1 q2 q3 q4 f0 f1 f2 f3 f4 e0 f5
  generalize (((((((w2.setCell ⟨w.heap.size, 0, none⟩ (.slice (some ⟨w.heap.size + 1, 0, none⟩) 2 2)).setCell ⟨w.heap.size, 1, none⟩ (.slice (some ⟨w2.heap.size, 0, none⟩) 1 1)).setCell ⟨w.heap.size, 2, none⟩ (.slice (some ⟨w2.heap.size + 1, 0, none⟩) 2 2)).setCell ⟨w.heap.size, 3, none⟩ (.int .i64 1000)).setCell ⟨w.heap.size, 4, none⟩ (.int .i64 0)).alloc (.cells #[.slice (some ⟨g1, 0, none⟩) 2 2, .slice (some ⟨g2, 0, none⟩) 2 2] 26)).alloc (.cells #[.int .i64 600000000, .int .i64 300000000, .int .i64 100000000, .int .i64 300, .int .i64 5, .int .i64 400000000, .int .i64 200000000, .int .i64 30000000, .int .i64 200, .int .i64 3] 63)) = W at *
  refine ⟨⟨_, rfl, _, _, _, _, _, _, rfl, by simp [shownJob], ?_, ?_, ?_⟩, hBx⟩
  · refine fun _ => ⟨_, _, rfl, e1.lt, fun i hi => ?_⟩
    rw [e1.cell (0 + i)]
    rcases (show i = 0 ∨ i = 1 by simp [shownJob] at hi; omega) with rfl | rfl <;> rfl
  · refine fun _ => ⟨_, _, fun _ => some ⟨g1, 0, none⟩, fun _ => some ⟨g2, 0, none⟩, fun _ => 2, fun _ => 2, rfl, e4.lt, fun i hi => ?_⟩
    obtain rfl : i = 0 := by simp [shownJob] at hi; omega
    exact ⟨e4.cell 0, e4.cell 1, knots2 e2 e2.lt, knots2 e3 e3.lt⟩
  · refine fun _ => ⟨_, _, rfl, e5.lt, fun i hi => ?_⟩
    rcases (show i = 0 ∨ i = 1 by simp [shownJob] at hi; omega) with rfl | rfl
    · exact ⟨e5.cell 0, e5.cell 1, e5.cell 2, e5.cell 3, e5.cell 4⟩
    · exact ⟨e5.cell 5, e5.cell 6, e5.cell 7, e5.cell 8, e5.cell 9⟩

theorem shown_bears : bears shownJob [1, 0] = (0, 1, 0) := by decide +kernel
theorem shown_check : checkJob shownJob = 0 := by decide +kernel
theorem shown_needed : needed 1 1001 = 2 := by decide +kernel
theorem shown_cost : cost shownJob [0, 0] = 1000000 := by decide +kernel

theorem ints2 {w : World} {g t : Nat} {a b : Int} (h : Box w g t #[.int .i64 a, .int .i64 b]) : Ints w w.heap.size (some ⟨g, 0, none⟩) [a, b] := fun _ => ⟨_, _, rfl, h.lt, fun i hi => by
  rw [h.cell (0 + i)]
  rcases (show i = 0 ∨ i = 1 by simp at hi; omega) with rfl | rfl <;> rfl⟩

set_option maxHeartbeats 1000000 in
theorem law05_awake (w : World) :
    Calls Try.prog 14 #[] w fun e w' => e = .returned (.bool true) ∧ Below w.heap.size w w' := by
  go_enter Try.func14, Try.ntmps14
  go_wp2_with fail
  refine (law05_shown _).mono ?_
  rintro e w1 ⟨⟨v, rfl, hv⟩, hb1⟩
  have HV := Lib.hid hv
  clear hv
  go_wp2_with fail
  have HB := Lib.hid (casing_Bears shownJob [1, 0] v (some ⟨w1.heap.size, 0, none⟩) 2 (w1.alloc (.cells #[.int .i64 1, .int .i64 0] 3)) (HV.out.alloc _) (ints2 (Box.new _ _ _ rfl)) (by simp))
  rw [shown_bears] at HB
  refine HB.out.mono ?_
  rintro e w2 ⟨rfl, hb2⟩
  replace hb2 := hb1.trans ((((Below.refl _ w1).alloc (Nat.le_refl _) _).trans (hb2.mono (by simp))).mono hb1.size)
  clear HB HV
  go_wp2_with fail
  refine (law05_shown _).mono ?_
  rintro e w3 ⟨⟨v3, rfl, hv3⟩, hb3⟩
  have HV := Lib.hid hv3
  replace hb3 := hb2.trans (hb3.mono hb2.size)
  clear hv3
  go_wp2_with fail
  have HC := Lib.hid (casing_Check shownJob _ _ HV.out)
  rw [shown_check] at HC
  refine HC.out.mono ?_
  rintro e w4 ⟨rfl, hb4⟩
  replace hb4 := hb3.trans (hb4.mono hb3.size)
  clear HC HV
  go_wp2_with fail
  have HN := Lib.hid (casing_Needed 1 1001 w4)
  rw [shown_needed] at HN
  refine HN.out.mono ?_
  rintro e w5 ⟨rfl, rfl⟩
  clear HN
  go_wp2_with fail
  refine (law05_shown _).mono ?_
  rintro e w6 ⟨⟨v6, rfl, hv6⟩, hb6⟩
  have HV := Lib.hid hv6
  replace hb6 := hb4.trans (hb6.mono hb4.size)
  clear hv6
  go_wp2_with fail
  have HB := Lib.hid (casing_Cost shownJob [0, 0] v6 (some ⟨w6.heap.size, 0, none⟩) 2 (w6.alloc (.cells #[.int .i64 0, .int .i64 0] 3)) (HV.out.alloc _) (ints2 (Box.new _ _ _ rfl)) (by simp))
  rw [shown_cost] at HB
  refine HB.out.mono ?_
  rintro e w7 ⟨rfl, hb7⟩
  replace hb7 := hb6.trans ((((Below.refl _ w6).alloc (Nat.le_refl _) _).trans (hb7.mono (by simp))).mono hb6.size)
  clear HB HV
  go_wp2_with fail
  go_ret
  exact ⟨rfl, hb7⟩

end Go.Proofs.Ytannipfohicpmaa
