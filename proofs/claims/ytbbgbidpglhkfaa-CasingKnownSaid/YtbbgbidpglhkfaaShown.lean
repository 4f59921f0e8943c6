/- The job of the chapter's examples, its memory told whole: for the law CasingKnown. -/
import Derived.Test.YtbbgbidpglhkfaaAwake
namespace Go.Proofs.Ytbbgbidpglhkfaa
open Go.RowKit Go.Shelf Mpl

/-- the job of the examples, the burst of its second grade told -/
def shownB (b : Int) : Job := ⟨[100000, 200000], [⟨line2 0 500000000 200000 2500000000, line2 0 0 200000 2000000000⟩], [⟨600000000, 300000000, 100000000, 300, 5⟩, ⟨b, 200000000, 30000000, 200, 3⟩], 1000, 0⟩
structure ShownAt (W : World) (gE gL gG g1 g2 : Nat) (b : Int) : Prop where
  e : Box W gE 2 #[.int .i64 100000, .int .i64 200000]
  l : Box W gL 48 #[.slice (some ⟨g1, 0, none⟩) 2 2, .slice (some ⟨g2, 0, none⟩) 2 2]
  g : Box W gG 58 #[.int .i64 600000000, .int .i64 300000000, .int .i64 100000000, .int .i64 300, .int .i64 5, .int .i64 b, .int .i64 200000000, .int .i64 30000000, .int .i64 200, .int .i64 3]
  i : Box W g1 91 #[.int .i64 0, .int .i64 500000000, .int .i64 200000, .int .i64 2500000000]
  o : Box W g2 91 #[.int .i64 0, .int .i64 0, .int .i64 200000, .int .i64 2000000000]
theorem apartK {W : World} {g g' t t' : Nat} {cs cs' : Array Value} (h : Box W g t cs) (h' : Box W g' t' cs') (hne : t ≠ t') : g ≠ g' := fun e => by
  subst e
  unfold Box at h h'
  rw [h] at h'
  injection h' with h'
  injection h' with _ h1
  exact hne h1
section
variable {W W' : World} {gE gL gG g1 g2 : Nat} {b : Int}
theorem ShownAt.under (h : ShownAt W gE gL gG g1 g2 b) (hb : Below W.heap.size W W') : ShownAt W' gE gL gG g1 g2 b := ⟨h.e.under hb, h.l.under hb, h.g.under hb, h.i.under hb, h.o.under hb⟩
theorem ShownAt.put (h : ShownAt W gE gL gG g1 g2 b) (x : Int) : ShownAt (W.setCell ⟨gG, 5, none⟩ (.int .i64 x)) gE gL gG g1 g2 x :=
  ⟨h.e.far (apartK h.e h.g (by decide)) _, h.l.far (apartK h.l h.g (by decide)) _, by simpa using h.g.set_ 5 (.int .i64 x), h.i.far (apartK h.i h.g (by decide)) _, h.o.far (apartK h.o h.g (by decide)) _⟩
theorem ShownAt.stress (h : ShownAt W gE gL gG g1 g2 b) : StressV W W.heap.size (.agg #[.slice (some ⟨g1, 0, none⟩) 2 2, .slice (some ⟨g2, 0, none⟩) 2 2]) ⟨line2 0 500000000 200000 2500000000, line2 0 0 200000 2000000000⟩ :=
  ⟨_, _, _, _, rfl, knots2 h.i h.i.lt, knots2 h.o h.o.lt⟩
theorem ShownAt.job (h : ShownAt W gE gL gG g1 g2 b) : JobV W W.heap.size (.agg #[.slice (some ⟨gE, 0, none⟩) 2 2, .slice (some ⟨gL, 0, none⟩) 1 1, .slice (some ⟨gG, 0, none⟩) 2 2, .int .i64 1000, .int .i64 0]) (shownB b) := by
  refine ⟨_, _, _, _, _, _, rfl, by simp [shownB], ?_, ?_, ?_⟩
  · refine fun _ => ⟨_, _, rfl, h.e.lt, fun i hi => ?_⟩
    rw [h.e.cell (0 + i)]
    rcases (show i = 0 ∨ i = 1 by simp [shownB] at hi; omega) with rfl | rfl <;> rfl
  · refine fun _ => ⟨_, _, fun _ => some ⟨g1, 0, none⟩, fun _ => some ⟨g2, 0, none⟩, fun _ => 2, fun _ => 2, rfl, h.l.lt, fun i hi => ?_⟩
    obtain rfl : i = 0 := by simp [shownB] at hi; omega
    exact ⟨h.l.cell 0, h.l.cell 1, knots2 h.i h.i.lt, knots2 h.o h.o.lt⟩
  · refine fun _ => ⟨_, _, rfl, h.g.lt, fun i hi => ?_⟩
    rcases (show i = 0 ∨ i = 1 by simp [shownB] at hi; omega) with rfl | rfl
    · exact ⟨h.g.cell 0, h.g.cell 1, h.g.cell 2, h.g.cell 3, h.g.cell 4⟩
    · exact ⟨h.g.cell 5, h.g.cell 6, h.g.cell 7, h.g.cell 8, h.g.cell 9⟩
end

set_option maxHeartbeats 1000000 in
theorem law05_shownAt (w : World) :
    Calls Try.prog 12 #[] w fun e w' => (∃ gE gL gG g1 g2, e = .returned (.agg #[.slice (some ⟨gE, 0, none⟩) 2 2, .slice (some ⟨gL, 0, none⟩) 1 1, .slice (some ⟨gG, 0, none⟩) 2 2, .int .i64 1000, .int .i64 0]) ∧ ShownAt w' gE gL gG g1 g2 400000000 ∧ w.heap.size ≤ gG) ∧ Below w.heap.size w w' := by
  go_enter Try.func12, Try.ntmps12
  go_wp2_with fail
  obtain ⟨w0, hw0⟩ : ∃ w0, ((w.alloc (.cells #[.slice none 0 0, .slice none 0 0, .slice none 0 0, .int .i64 0, .int .i64 0] 42)).alloc (.cells #[.int .i64 100000, .int .i64 200000] 2)) = w0 := ⟨_, rfl⟩
  have b0 : Box w0 w.heap.size 42 #[.slice none 0 0, .slice none 0 0, .slice none 0 0, .int .i64 0, .int .i64 0] := by rw [← hw0]; exact (Box.new w _ _ rfl).alloc _
  have b1 : Box w0 (w.heap.size + 1) 2 #[.int .i64 100000, .int .i64 200000] := by rw [← hw0]; exact Box.new _ _ _ (by simp)
  have hB0 : Below w.heap.size w w0 := by rw [← hw0]; exact (by repeat (first | exact Below.refl _ _ | assumption | refine Below.setCell ?_ (by first | (simp; done) | (simp; omega)) _ | refine belowDrewN ?_ _ | refine Below.drew ?_ | refine Below.alloc ?_ (by first | (simp; done) | (simp; omega)) _))
  rw [hw0]
  clear hw0
  refine (law05_line _ _ _ _ _).mono ?_
  have hlt0 := b1.lt
  rintro e w1 ⟨⟨g1, rfl, hg1, h1⟩, hb1⟩
  replace b0 := b0.under hb1
  replace b1 := b1.under hb1
  replace hB0 := hB0.trans (hb1.mono hB0.size)
  have H1 := Lib.hid h1
  clear h1 hb1
  go_wp2_with fail
  refine (law05_line _ _ _ _ _).mono ?_
  have hlt1 := b1.lt
  rintro e w2 ⟨⟨g2, rfl, hg2, h2⟩, hb2⟩
  replace b0 := b0.under hb2
  replace b1 := b1.under hb2
  replace hB0 := hB0.trans (hb2.mono hB0.size)
  have H2 := Lib.hid h2
  replace H1 := Lib.hid (H1.out.under hb2)
  clear h2 hb2
  have HB0 := Lib.hid hB0
  have B0 := Lib.hid b0
  have B1 := Lib.hid b1
  have hs := b0.lt
  have q0 := b0.cell 0
  have q1 := b0.cell 1
  have q2 := b0.cell 2
  have q3 := b0.cell 3
  have q4 := b0.cell 4
  have f0 := b0.frozen 0
  have f1 := b0.frozen 1
  have f2 := b0.frozen 2
  have f3 := b0.frozen 3
  have f4 := b0.frozen 4
  clear b0 b1 hB0
  simp only [List.getElem?_toArray, List.getElem?_cons_zero, List.getElem?_cons_succ] at q0 q1 q2 q3 q4
  go_wp2_with fail
  have e0 := ((((((B0.out.set_ 0 (.slice (some ⟨w.heap.size + 1, 0, none⟩) 2 2)).set_ 1 (.slice (some ⟨w2.heap.size, 0, none⟩) 1 1)).set_ 2 (.slice (some ⟨w2.heap.size + 1, 0, none⟩) 2 2)).set_ 3 (.int .i64 1000)).set_ 4 (.int .i64 0)).alloc (.cells #[.slice (some ⟨g1, 0, none⟩) 2 2, .slice (some ⟨g2, 0, none⟩) 2 2] 48)).alloc (.cells #[.int .i64 600000000, .int .i64 300000000, .int .i64 100000000, .int .i64 300, .int .i64 5, .int .i64 400000000, .int .i64 200000000, .int .i64 30000000, .int .i64 200, .int .i64 3] 58)
  have f5 : ∀ (g t : Nat) (cs : Array Value), g ≠ w.heap.size → Box w2 g t cs → Box (((((((w2.setCell ⟨w.heap.size, 0, none⟩ (.slice (some ⟨w.heap.size + 1, 0, none⟩) 2 2)).setCell ⟨w.heap.size, 1, none⟩ (.slice (some ⟨w2.heap.size, 0, none⟩) 1 1)).setCell ⟨w.heap.size, 2, none⟩ (.slice (some ⟨w2.heap.size + 1, 0, none⟩) 2 2)).setCell ⟨w.heap.size, 3, none⟩ (.int .i64 1000)).setCell ⟨w.heap.size, 4, none⟩ (.int .i64 0)).alloc (.cells #[.slice (some ⟨g1, 0, none⟩) 2 2, .slice (some ⟨g2, 0, none⟩) 2 2] 48)).alloc (.cells #[.int .i64 600000000, .int .i64 300000000, .int .i64 100000000, .int .i64 300, .int .i64 5, .int .i64 400000000, .int .i64 200000000, .int .i64 30000000, .int .i64 200, .int .i64 3] 58)) g t cs :=
    fun g t cs hg h => (((((((h.far hg _).far hg _).far hg _).far hg _).far hg _).alloc _).alloc _)
  have e1 := f5 _ _ _ (by omega) B1.out
  have e2 := f5 _ _ _ (by omega) H1.out
  have e3 := f5 _ _ _ (by omega) H2.out
  have q0 := e0.cell 0
  have q1 := e0.cell 1
  have q2 := e0.cell 2
  have q3 := e0.cell 3
  have q4 := e0.cell 4
  simp only [List.setIfInBounds_toArray, List.set_cons_zero, List.set_cons_succ, List.getElem?_toArray, List.getElem?_cons_zero, List.getElem?_cons_succ] at q0 q1 q2 q3 q4
  refine bodyPost_ret (results_cell1 rfl _ _ _ w.heap.size (.agg #[.slice (some ⟨w.heap.size + 1, 0, none⟩) 2 2, .slice (some ⟨w2.heap.size, 0, none⟩) 1 1, .slice (some ⟨w2.heap.size + 1, 0, none⟩) 2 2, .int .i64 1000, .int .i64 0]) rfl (by simp [go_sem, q0, q1, q2, q3, q4])) rfl ?_
  have e4 : Box _ w2.heap.size 48 #[.slice (some ⟨g1, 0, none⟩) 2 2, .slice (some ⟨g2, 0, none⟩) 2 2] := (Box.new (g := w2.heap.size) (((((w2.setCell ⟨w.heap.size, 0, none⟩ (.slice (some ⟨w.heap.size + 1, 0, none⟩) 2 2)).setCell ⟨w.heap.size, 1, none⟩ (.slice (some ⟨w2.heap.size, 0, none⟩) 1 1)).setCell ⟨w.heap.size, 2, none⟩ (.slice (some ⟨w2.heap.size + 1, 0, none⟩) 2 2)).setCell ⟨w.heap.size, 3, none⟩ (.int .i64 1000)).setCell ⟨w.heap.size, 4, none⟩ (.int .i64 0)) 48 #[.slice (some ⟨g1, 0, none⟩) 2 2, .slice (some ⟨g2, 0, none⟩) 2 2] (by simp)).alloc (.cells #[.int .i64 600000000, .int .i64 300000000, .int .i64 100000000, .int .i64 300, .int .i64 5, .int .i64 400000000, .int .i64 200000000, .int .i64 30000000, .int .i64 200, .int .i64 3] 58)
  have e5 : Box _ (w2.heap.size + 1) 58 #[.int .i64 600000000, .int .i64 300000000, .int .i64 100000000, .int .i64 300, .int .i64 5, .int .i64 400000000, .int .i64 200000000, .int .i64 30000000, .int .i64 200, .int .i64 3] := Box.new (g := w2.heap.size + 1) ((((((w2.setCell ⟨w.heap.size, 0, none⟩ (.slice (some ⟨w.heap.size + 1, 0, none⟩) 2 2)).setCell ⟨w.heap.size, 1, none⟩ (.slice (some ⟨w2.heap.size, 0, none⟩) 1 1)).setCell ⟨w.heap.size, 2, none⟩ (.slice (some ⟨w2.heap.size + 1, 0, none⟩) 2 2)).setCell ⟨w.heap.size, 3, none⟩ (.int .i64 1000)).setCell ⟨w.heap.size, 4, none⟩ (.int .i64 0)).alloc (.cells #[.slice (some ⟨g1, 0, none⟩) 2 2, .slice (some ⟨g2, 0, none⟩) 2 2] 48)) 58 _ (by simp)
  have hBx : Below w.heap.size w (((((((w2.setCell ⟨w.heap.size, 0, none⟩ (.slice (some ⟨w.heap.size + 1, 0, none⟩) 2 2)).setCell ⟨w.heap.size, 1, none⟩ (.slice (some ⟨w2.heap.size, 0, none⟩) 1 1)).setCell ⟨w.heap.size, 2, none⟩ (.slice (some ⟨w2.heap.size + 1, 0, none⟩) 2 2)).setCell ⟨w.heap.size, 3, none⟩ (.int .i64 1000)).setCell ⟨w.heap.size, 4, none⟩ (.int .i64 0)).alloc (.cells #[.slice (some ⟨g1, 0, none⟩) 2 2, .slice (some ⟨g2, 0, none⟩) 2 2] 48)).alloc (.cells #[.int .i64 600000000, .int .i64 300000000, .int .i64 100000000, .int .i64 300, .int .i64 5, .int .i64 400000000, .int .i64 200000000, .int .i64 30000000, .int .i64 200, .int .i64 3] 58)) :=
    ((((((HB0.out.setCell (p := ⟨w.heap.size, 0, none⟩) (Nat.le_refl _) _).setCell (p := ⟨w.heap.size, 1, none⟩) (Nat.le_refl _) _).setCell (p := ⟨w.heap.size, 2, none⟩) (Nat.le_refl _) _).setCell (p := ⟨w.heap.size, 3, none⟩) (Nat.le_refl _) _).setCell (p := ⟨w.heap.size, 4, none⟩) (Nat.le_refl _) _).alloc (by simp; omega) _).alloc (by simp; omega) _
  clear q0 q1 q2 q3 q4 f0 f1 f2 f3 f4 e0 f5
  generalize (((((((w2.setCell ⟨w.heap.size, 0, none⟩ (.slice (some ⟨w.heap.size + 1, 0, none⟩) 2 2)).setCell ⟨w.heap.size, 1, none⟩ (.slice (some ⟨w2.heap.size, 0, none⟩) 1 1)).setCell ⟨w.heap.size, 2, none⟩ (.slice (some ⟨w2.heap.size + 1, 0, none⟩) 2 2)).setCell ⟨w.heap.size, 3, none⟩ (.int .i64 1000)).setCell ⟨w.heap.size, 4, none⟩ (.int .i64 0)).alloc (.cells #[.slice (some ⟨g1, 0, none⟩) 2 2, .slice (some ⟨g2, 0, none⟩) 2 2] 48)).alloc (.cells #[.int .i64 600000000, .int .i64 300000000, .int .i64 100000000, .int .i64 300, .int .i64 5, .int .i64 400000000, .int .i64 200000000, .int .i64 30000000, .int .i64 200, .int .i64 3] 58)) = W at *
  exact ⟨⟨_, _, _, g1, g2, rfl, ⟨e1, e4, e5, e2, e3⟩, by omega⟩, hBx⟩

end Go.Proofs.Ytbbgbidpglhkfaa
