/- Rows of numbers that are written in place: the memory of the law CasingChecks. -/
import Derived.Test.YtannipfohicpmaaMoreMem
namespace Go.Proofs.Ytannipfohicpmaa
open Go.ChangeShapes Go.WideShapes Go.RowKit Go.Shelf Go.Deep Mpl

/-- a row of the call's own whose cells are whole numbers, which ones is not told -/
def OwnN (W : World) (B : Nat) (e size : Nat) (v : Value) (n : Nat) : Prop := ∃ xs, W.ownsRow B e size v n xs ∧ ∀ u ∈ xs, ∃ a, u = .int .i64 a
section
variable {W W' : World} {B e size n : Nat} {v : Value}
theorem OwnN.under (h : OwnN W B e size v n) (hb : Below W.heap.size W W') : OwnN W' B e size v n := by
  obtain ⟨xs, h1, h2⟩ := h
  exact ⟨xs, own_under h1 hb, h2⟩
theorem OwnN.put (h : OwnN W B e size v n) (g j : Nat) (a : Int) : OwnN (W.setCell ⟨g, j, none⟩ (.int .i64 a)) B e size v n := by
  obtain ⟨xs, h1, h2⟩ := h
  rcases h1.2 with ⟨rfl, rfl⟩ | ⟨g', cap, cur, rfl, hg, hh, hr⟩
  · exact ⟨xs, ⟨h1.1, .inl ⟨rfl, rfl⟩⟩, h2⟩
  · by_cases hgg : g = g'
    · subst hgg
      refine ⟨xs.set j (.int .i64 a), (h1.stored j _).1, fun u hu => ?_⟩
      rcases List.mem_or_eq_of_mem_set hu with hu | rfl
      · exact h2 u hu
      · exact ⟨a, rfl⟩
    · exact ⟨xs, ⟨h1.1, .inr ⟨g', cap, cur, rfl, hg, (Below.heap_setCell W ⟨g, j, none⟩ (.int .i64 a) g' (by simp; omega)).trans hh, hr⟩⟩, h2⟩
theorem OwnN.cell {A : Option Addr} {c i : Nat} (h : OwnN W B e size (.slice A n c) n) (hi : i < n * size) :
    ∃ g x cs, A = some ⟨g, 0, none⟩ ∧ B ≤ g ∧ g < W.heap.size ∧ W.cell? ⟨g, i, none⟩ = some (.int .i64 x) ∧ W.frozen? ⟨g, i, none⟩ = false ∧ Box W g e cs := by
  obtain ⟨xs, h1, h2⟩ := h
  rcases h1.2 with ⟨hv, rfl⟩ | ⟨g', cap, cur, hv, hg, hh, hr⟩
  · omega
  · injection hv with e1 _ e2
    subst e1 e2
    have hx : i < xs.length := by rw [h1.1]; exact hi
    have hc := h1.cellAt i hi
    obtain ⟨a, ha⟩ := h2 xs[i] (List.getElem_mem hx)
    exact ⟨g', a, cur, rfl, hg, (Array.getElem?_eq_some_iff.1 hh).1, by rw [hc, List.getElem?_eq_getElem hx, ha], h1.frozenAt i, hh⟩
end
theorem OwnN.ints {W : World} {B e : Nat} {v : Value} {n : Nat} {l : List Int} (h : W.ownsRow B e 1 v n (l.map (Value.int .i64))) : OwnN W B e 1 v n :=
  ⟨_, h, fun u hu => by obtain ⟨a, _, rfl⟩ := List.mem_map.1 hu; exact ⟨a, rfl⟩⟩
theorem OwnN.knots {W : World} {B e : Nat} {v : Value} {n : Nat} {l : List Knot} (h : W.ownsRow B e 2 v n (l.flatMap knotC)) : OwnN W B e 2 v n :=
  ⟨_, h, fun u hu => by
    obtain ⟨t, _, hu⟩ := List.mem_flatMap.1 hu
    simp [knotC] at hu
    rcases hu with rfl | rfl <;> exact ⟨_, rfl⟩⟩

end Go.Proofs.Ytannipfohicpmaa
