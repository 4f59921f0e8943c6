/- Rows of the call's own as lines, jobs, loads. -/
import Derived.Test.YtnhnheigdlnokaaMod
import Derived.Test.YtnhnheigdlnokaaMade
import Derived.Test.YtnhnheigdlnokaaAppend
import Derived.Test.YtnhnheigdlnokaaOpen
namespace Go.Proofs.Ytnhnheigdlnokaa
open Go.RowKit Go.Shelf Mpl

theorem own_far {w : World} {base : Nat} {e : TypeId} {size : Nat} {v : Value} {n : Nat} {xs : List Value} (h : w.ownsRow base e size v n xs) {p : Addr} (hp : p.block < base) (u : Value) : (w.setCell p u).ownsRow base e size v n xs := by
  obtain ⟨h1, h2⟩ := h
  refine ⟨h1, ?_⟩
  rcases h2 with h2 | ⟨g, cap, cur, hv, hg, hh, r⟩
  · exact .inl h2
  · exact .inr ⟨g, cap, cur, hv, hg, (Below.heap_setCell w p u g (by omega)).trans hh, r⟩

theorem own_le {w : World} {base base' : Nat} {e : TypeId} {size : Nat} {v : Value} {n : Nat} {xs : List Value} (h : w.ownsRow base e size v n xs) (hb : base' ≤ base) : w.ownsRow base' e size v n xs := by
  obtain ⟨h1, h2⟩ := h
  refine ⟨h1, ?_⟩
  rcases h2 with h2 | ⟨g, cap, cur, hv, hg, hh, r⟩
  · exact .inl h2
  · exact .inr ⟨g, cap, cur, hv, by omega, hh, r⟩
/-- a row that lies below B, where nothing below B changes -/
theorem own_below {w w' : World} {base B : Nat} {e : TypeId} {size : Nat} {v : Value} {n : Nat} {xs : List Value} (h : w.ownsRow base e size v n xs) (hlt : ∀ k, v.ownBlock = some k → k < B) (hb : Below B w w') : w'.ownsRow base e size v n xs := by
  obtain ⟨h1, h2⟩ := h
  refine ⟨h1, ?_⟩
  rcases h2 with h2 | ⟨g, cap, cur, hv, hg, hh, r⟩
  · exact .inl h2
  · exact .inr ⟨g, cap, cur, hv, hg, (hb.block g (hlt g (by rw [hv]; rfl))).trans hh, r⟩
theorem own_lt {w : World} {base : Nat} {e : TypeId} {size : Nat} {v : Value} {n : Nat} {xs : List Value} (h : w.ownsRow base e size v n xs) : ∀ k, v.ownBlock = some k → k < w.heap.size := by
  rcases h.2 with ⟨rfl, _⟩ | ⟨g, cap, cur, rfl, hg, hh, r⟩
  · intro k hk; simp [Value.ownBlock] at hk
  · intro k hk
    simp [Value.ownBlock] at hk
    subst hk
    exact (Array.getElem?_eq_some_iff.1 hh).1
/-- a row stays where another row, of elements of another type, grows -/
theorem own_other {w w' : World} {base base' : Nat} {e e' : TypeId} {size size' : Nat} {v v' : Value} {n n' : Nat} {xs xs' : List Value} (h : w.ownsRow base e size v n xs) (k : w.ownsRow base' e' size' v' n' xs') (hne : e ≠ e') (hg : w.grownBy w' v'.ownBlock) : w'.ownsRow base e size v n xs := by
  obtain ⟨h1, h2⟩ := h
  refine ⟨h1, ?_⟩
  rcases h2 with h2 | ⟨g, cap, cur, hv, hgg, hh, r⟩
  · exact .inl h2
  · refine .inr ⟨g, cap, cur, hv, hgg, (hg.block g (Array.getElem?_eq_some_iff.1 hh).1 ?_).trans hh, r⟩
    rcases k.2 with ⟨rfl, _⟩ | ⟨g', cap', cur', rfl, _, hh', _⟩
    · simp [Value.ownBlock]
    · intro he
      have : g = g' := by simpa [Value.ownBlock] using he
      subst this
      rw [hh] at hh'
      injection hh' with hh'
      injection hh' with _ ht
      exact hne ht

theorem Ints.own {w : World} {base : Nat} {e : TypeId} {v : Value} {n : Nat} {l : List Int} (h : w.ownsRow base e 1 v n (l.map (Value.int .i64))) :
    ∃ A c, v = .slice A l.length c ∧ l.length ≤ c ∧ Ints w w.heap.size A l := by
  have hn : n = l.length := by have := h.1; simp at this; omega
  subst hn
  obtain ⟨A, c, rfl, hnc, hc⟩ := own_form h
  refine ⟨A, c, rfl, hnc, fun h0 => ?_⟩
  obtain ⟨g, rfl, _, hlt, hcell⟩ := hc h0
  refine ⟨g, 0, rfl, hlt, fun i hi => ?_⟩
  rw [Nat.zero_add]
  exact hcell i _ (by simp [pick, hi])

def gradeC (g : Grade) : List Value := [.int .i64 g.Burst, .int .i64 g.Collapse, .int .i64 g.Pull, .int .i64 g.Weight, .int .i64 g.Cost]
theorem Grades.own {w : World} {base : Nat} {e : TypeId} {v : Value} {n : Nat} {l : List Grade} (h : w.ownsRow base e 5 v n (l.flatMap gradeC)) :
    ∃ A c, v = .slice A l.length c ∧ l.length ≤ c ∧ Grades w w.heap.size A l := by
  have hn : n = l.length := by have := h.1; rw [flatC_len gradeC 5 (fun _ => rfl)] at this; omega
  subst hn
  obtain ⟨A, c, rfl, hnc, hc⟩ := own_form h
  refine ⟨A, c, rfl, hnc, fun h0 => ?_⟩
  obtain ⟨g, rfl, _, hlt, hcell⟩ := hc h0
  refine ⟨g, 0, rfl, hlt, fun i hi => ?_⟩
  have ht : gd l i = l[i] := by simp [gd, hi]
  have hg := fun j hj => flat_get gradeC 5 (fun _ => rfl) l i j hi hj
  rw [ht]
  refine ⟨?_, ?_, ?_, ?_, ?_⟩
  · have := hcell (i * 5 + 0) _ ((hg 0 (by omega)).trans rfl); simpa using this
  · have := hcell (i * 5 + 1) _ ((hg 1 (by omega)).trans rfl); simpa using this
  · have := hcell (i * 5 + 2) _ ((hg 2 (by omega)).trans rfl); simpa using this
  · have := hcell (i * 5 + 3) _ ((hg 3 (by omega)).trans rfl); simpa using this
  · have := hcell (i * 5 + 4) _ ((hg 4 (by omega)).trans rfl); simpa using this

/-! ### knots as cells -/
def knotC (k : Knot) : List Value := [.int .i64 k.At, .int .i64 k.V]
theorem Knots.own {w : World} {base : Nat} {e : TypeId} {v : Value} {n : Nat} {l : List Knot} (h : w.ownsRow base e 2 v n (l.flatMap knotC)) :
    ∃ A c, v = .slice A l.length c ∧ l.length ≤ c ∧ Knots w w.heap.size A l := by
  have hn : n = l.length := by have := h.1; rw [flatC_len knotC 2 (fun _ => rfl)] at this; omega
  subst hn
  obtain ⟨A, c, rfl, hnc, hc⟩ := own_form h
  refine ⟨A, c, rfl, hnc, fun h0 => ?_⟩
  obtain ⟨g, rfl, _, hlt, hcell⟩ := hc h0
  refine ⟨g, 0, rfl, hlt, fun i hi j hj => ?_⟩
  have ht : kn l i = l[i] := by simp [kn, hi]
  have hg := fun j hj => flat_get knotC 2 (fun _ => rfl) l i j hi hj
  rw [knF, ht]
  rcases (show j = 0 ∨ j = 1 by omega) with rfl | rfl
  · have := hcell (i * 2 + 0) _ ((hg 0 (by omega)).trans rfl); simpa using this
  · have := hcell (i * 2 + 1) _ ((hg 1 (by omega)).trans rfl); simpa using this

/-- a load in memory of the call's own -/
structure LoadC where
  AI : Option Addr
  cI : Nat
  AO : Option Addr
  cO : Nat
  s : Stress
def loadC (x : LoadC) : List Value := [.slice x.AI x.s.In.length x.cI, .slice x.AO x.s.Out.length x.cO]
def LoadOwn (w : World) (base : Nat) (x : LoadC) : Prop := w.ownsRow base 81 2 (.slice x.AI x.s.In.length x.cI) x.s.In.length (x.s.In.flatMap knotC) ∧ w.ownsRow base 81 2 (.slice x.AO x.s.Out.length x.cO) x.s.Out.length (x.s.Out.flatMap knotC)
theorem Knots.own_slice {w : World} {base : Nat} {e : TypeId} {A : Option Addr} {c : Nat} {l : List Knot} (h : w.ownsRow base e 2 (.slice A l.length c) l.length (l.flatMap knotC)) : Knots w w.heap.size A l := by
  obtain ⟨A', c', hv, _, hk⟩ := Knots.own h
  injection hv with h1 _ _
  rw [h1]
  exact hk
theorem Loads.own {w : World} {base base' : Nat} {e : TypeId} {v : Value} {n : Nat} {l : List LoadC} (h : w.ownsRow base e 2 v n (l.flatMap loadC)) (hl : ∀ x ∈ l, LoadOwn w base' x) :
    ∃ A c, v = .slice A (l.map LoadC.s).length c ∧ (l.map LoadC.s).length ≤ c ∧ Loads w w.heap.size A (l.map LoadC.s) := by
  have hn : n = l.length := by have := h.1; rw [flatC_len loadC 2 (fun _ => rfl)] at this; omega
  subst hn
  obtain ⟨A, c, rfl, hnc, hc⟩ := own_form h
  refine ⟨A, c, by simp, by simpa using hnc, fun h0 => ?_⟩
  have h0' : 0 < l.length := by simpa using h0
  obtain ⟨g, rfl, _, hlt, hcell⟩ := hc h0'
  refine ⟨g, 0, fun i => (l[i]?.map LoadC.AI).getD none, fun i => (l[i]?.map LoadC.AO).getD none, fun i => (l[i]?.map LoadC.cI).getD 0, fun i => (l[i]?.map LoadC.cO).getD 0, rfl, hlt, fun i hi => ?_⟩
  have hi' : i < l.length := by simpa using hi
  have ht : ld (l.map LoadC.s) i = l[i].s := by simp [ld, hi']
  have hg := fun j hj => flat_get loadC 2 (fun _ => rfl) l i j hi' hj
  have hx := hl l[i] (List.getElem_mem hi')
  rw [ht]
  simp only [List.getElem?_eq_getElem hi', Option.map_some, Option.getD_some]
  refine ⟨?_, ?_, Knots.own_slice hx.1, Knots.own_slice hx.2⟩
  · have := hcell (i * 2 + 0) _ ((hg 0 (by omega)).trans rfl); simpa using this
  · have := hcell (i * 2 + 1) _ ((hg 1 (by omega)).trans rfl); simpa using this

theorem info_Stress : (Try.prog.info? 132).map (fun i => (i.zero, i.size, i.bytes)) = some (some (.agg #[.slice none 0 0, .slice none 0 0]), 2, 48) := by kernel_rfl
theorem info_Grade : (Try.prog.info? 134).map (fun i => (i.zero, i.size, i.bytes)) = some (some (.agg #[.int .i64 0, .int .i64 0, .int .i64 0, .int .i64 0, .int .i64 0]), 5, 40) := by kernel_rfl
theorem info_Knot : (Try.prog.info? 81).map (fun i => (i.zero, i.size, i.bytes)) = some (some (.agg #[.int .i64 0, .int .i64 0]), 2, 16) := by kernel_rfl

theorem load_line {w : World} {g t : Nat} {v : Value} (b : Box w g t #[v]) : (loadVar 62 ⟨g, 0, none⟩).run Try.prog w = .ok (.agg #[v]) w := by
  have q0 := b.cell 0
  simp only [List.getElem?_toArray, List.getElem?_cons_zero] at q0
  simp [go_sem, q0]

end Go.Proofs.Ytnhnheigdlnokaa
