/- A region that draws its order: what holds whatever the order, told by the bits of what is done. -/
import Derived.Test.YtannipfohicpmaaPackCopy
namespace Go.Proofs.Ytannipfohicpmaa.Inv2
open Go.RowKit

section
variable {P : Program} {ops : Array Oper} {Q : Exit → Act → World → Prop} {md : Region.Mode} {S : World → Prop} {z : Nat}

theorem count_list : ∀ (l : List Bool) (i : Nat), l[i]? = some false → (l.set i true).count false + 1 = l.count false
  | [], _, h => by simp at h
  | x :: l, 0, h => by simp at h; subst h; simp
  | x :: l, i + 1, h => by
    simp at h
    have := count_list l i h
    simp only [List.set_cons_succ, List.count_cons]
    omega
theorem count_set {b : Array Bool} {i : Nat} (h : b.getD i true = false) : (b.setIfInBounds i true).toList.count false + 1 = b.toList.count false := by
  obtain ⟨l⟩ := b
  have : l[i]? = some false := by
    rcases Nat.lt_or_ge i l.length with hl | hl
    · simp [hl] at h ⊢; exact h
    · simp [hl] at h
  simpa using count_list l i this
theorem count_zero {b : Array Bool} (h : b.toList.count false = 0) : Region.ready md ops b = [] := by
  rcases hr : Region.ready md ops b with _ | ⟨i, r⟩
  · rfl
  · have hi : i ∈ Region.ready md ops b := by rw [hr]; simp
    have := count_set (mem_ready.1 hi).1
    omega

theorem any_inv {Inv : Array Bool → Act → World → Prop} (hS : ∀ b a w, Inv b a w → S w) (hs : ∀ b a w, Inv b a w → ∀ i ∈ Region.ready md ops b, ∃ o, ops[i]? = some o ∧ o.guard = none ∧ ∀ K : Act → World → Prop, (∀ a' w', Inv (b.setIfInBounds i true) a' w' → K a' w') → o.wp P a w K Q)
    (hd : ∀ b a w, Inv b a w → Region.ready md ops b = [] → Q .normal a w) : ∀ (m : Nat) (b : Array Bool) (a : Act) (w : World), b.toList.count false ≤ m → Inv b a w → AnyBut P md ops Q S z m b a w
  | 0, b, a, w, hc, h => by
    have hr := count_zero (md := md) (ops := ops) (b := b) (by omega)
    exact ⟨hr, hd b a w h hr⟩
  | m + 1, b, a, w, hc, h => by
    refine ⟨hd b a w h, fun i hi => ?_⟩
    obtain ⟨o, ho, hg, hk⟩ := hs b a w h i hi
    unfold wpOp
    simp only [ho]
    rw [if_pos (by simp [Region.wanted, hg])]
    refine .inl (hk _ fun a' w' h' => ⟨fun _ => hS _ _ _ h', any_inv hS hs hd m _ a' w' ?_ h'⟩)
    have := count_set (mem_ready.1 hi).1
    omega

theorem any_from (F : Array Bool → Act → Array Bool → Act → World → Prop) {m : Nat} {b0 : Array Bool} {a0 : Act} {w : World} (hc : b0.toList.count false ≤ m) (h0 : F b0 a0 b0 a0 w) (hS : ∀ b a w, F b0 a0 b a w → S w)
    (hs : ∀ b a w, F b0 a0 b a w → ∀ i ∈ Region.ready md ops b, ∃ o, ops[i]? = some o ∧ o.guard = none ∧ ∀ K : Act → World → Prop, (∀ a' w', F b0 a0 (b.setIfInBounds i true) a' w' → K a' w') → o.wp P a w K Q)
    (hd : ∀ b a w, F b0 a0 b a w → Region.ready md ops b = [] → Q .normal a w) : AnyBut P md ops Q S z m b0 a0 w :=
  any_inv (Inv := F b0 a0) hS hs hd m b0 a0 w hc h0
end

/-- two blocks of one type, made and filled in any order -/
structure Two (B : Nat) (t : TypeId) (c1 c2 : Array Value) (d1 d2 a1 a2 s1 s2 : Bool) (u1 u2 p1 p2 : Value) (w : World) : Prop where
  r1 : d1 = true → u1 = .agg c1
  r2 : d2 = true → u2 = .agg c2
  l1 : a1 = true → ∃ g cs, p1 = .pointer (some ⟨g, 0, none⟩) ∧ B ≤ g ∧ Box w g t cs ∧ cs.size = c1.size ∧ (s1 = true → cs = c1)
  l2 : a2 = true → ∃ g cs, p2 = .pointer (some ⟨g, 0, none⟩) ∧ B ≤ g ∧ Box w g t cs ∧ cs.size = c2.size ∧ (s2 = true → cs = c2)
  ne : a1 = true → a2 = true → p1 ≠ p2
section
variable {B : Nat} {t : TypeId} {c1 c2 : Array Value} {d1 d2 a1 a2 s1 s2 : Bool} {u1 u2 p1 p2 : Value} {w w' : World}
theorem Two.none : Two B t c1 c2 false false false false false false u1 u2 p1 p2 w := ⟨fun h => (by cases h), fun h => (by cases h), fun h => (by cases h), fun h => (by cases h), fun h => (by cases h)⟩
theorem Two.under (h : Two B t c1 c2 d1 d2 a1 a2 s1 s2 u1 u2 p1 p2 w) (hb : Below w.heap.size w w') : Two B t c1 c2 d1 d2 a1 a2 s1 s2 u1 u2 p1 p2 w' :=
  ⟨h.r1, h.r2, fun e => by obtain ⟨g, cs, h1, h2, h3, h4, h5⟩ := h.l1 e; exact ⟨g, cs, h1, h2, h3.under hb, h4, h5⟩, fun e => by obtain ⟨g, cs, h1, h2, h3, h4, h5⟩ := h.l2 e; exact ⟨g, cs, h1, h2, h3.under hb, h4, h5⟩, h.ne⟩
theorem Two.call1 (h : Two B t c1 c2 d1 d2 a1 a2 s1 s2 u1 u2 p1 p2 w) : Two B t c1 c2 true d2 a1 a2 s1 s2 (.agg c1) u2 p1 p2 w := ⟨fun _ => rfl, h.r2, h.l1, h.l2, h.ne⟩
theorem Two.call2 (h : Two B t c1 c2 d1 d2 a1 a2 s1 s2 u1 u2 p1 p2 w) : Two B t c1 c2 d1 true a1 a2 s1 s2 u1 (.agg c2) p1 p2 w := ⟨h.r1, fun _ => rfl, h.l1, h.l2, h.ne⟩
theorem Two.alloc1 (h : Two B t c1 c2 d1 d2 false a2 false s2 u1 u2 p1 p2 w) (cs : Array Value) (hs : cs.size = c1.size) (hB : B ≤ w.heap.size) : Two B t c1 c2 d1 d2 true a2 false s2 u1 u2 (.pointer (some ⟨w.heap.size, 0, Option.none⟩)) p2 (w.alloc (.cells cs t)) := by
  have h' := h.under ((Below.refl _ w).alloc (Nat.le_refl _) (.cells cs t))
  refine ⟨h'.r1, h'.r2, fun _ => ⟨_, cs, rfl, hB, Box.new _ _ _ rfl, hs, fun h => by cases h⟩, h'.l2, fun _ e => ?_⟩
  obtain ⟨g, cs', rfl, _, h3, _⟩ := h.l2 e
  have := h3.lt
  simp
  try omega
theorem Two.alloc2 (h : Two B t c1 c2 d1 d2 a1 false s1 false u1 u2 p1 p2 w) (cs : Array Value) (hs : cs.size = c2.size) (hB : B ≤ w.heap.size) : Two B t c1 c2 d1 d2 a1 true s1 false u1 u2 p1 (.pointer (some ⟨w.heap.size, 0, Option.none⟩)) (w.alloc (.cells cs t)) := by
  have h' := h.under ((Below.refl _ w).alloc (Nat.le_refl _) (.cells cs t))
  refine ⟨h'.r1, h'.r2, h'.l1, fun _ => ⟨_, cs, rfl, hB, Box.new _ _ _ rfl, hs, fun h => by cases h⟩, fun e _ => ?_⟩
  obtain ⟨g, cs', rfl, _, h3, _⟩ := h.l1 e
  have := h3.lt
  simp
  try omega
/-- the block of the first is overwritten -/
theorem Two.put1 {g : Nat} (h : Two B t c1 c2 d1 d2 true a2 s1 s2 u1 u2 (.pointer (some ⟨g, 0, Option.none⟩)) p2 w) (hb : Box w' g t c1) (ho : ∀ g' t' cs', g' ≠ g → Box w g' t' cs' → Box w' g' t' cs') : Two B t c1 c2 d1 d2 true a2 true s2 u1 u2 (.pointer (some ⟨g, 0, Option.none⟩)) p2 w' := by
  obtain ⟨g', cs', h1, h2, h3, h4, h5⟩ := h.l1 rfl
  simp at h1
  subst h1
  refine ⟨h.r1, h.r2, fun _ => ⟨g, c1, rfl, h2, hb, rfl, fun _ => rfl⟩, fun e => ?_, h.ne⟩
  obtain ⟨g2, cs2, k1, k2, k3, k4, k5⟩ := h.l2 e
  refine ⟨g2, cs2, k1, k2, ho _ _ _ (fun e2 => ?_) k3, k4, k5⟩
  subst e2
  exact h.ne rfl e k1.symm
theorem Two.put2 {g : Nat} (h : Two B t c1 c2 d1 d2 a1 true s1 s2 u1 u2 p1 (.pointer (some ⟨g, 0, Option.none⟩)) w) (hb : Box w' g t c2) (ho : ∀ g' t' cs', g' ≠ g → Box w g' t' cs' → Box w' g' t' cs') : Two B t c1 c2 d1 d2 a1 true s1 true u1 u2 p1 (.pointer (some ⟨g, 0, Option.none⟩)) w' := by
  obtain ⟨g', cs', h1, h2, h3, h4, h5⟩ := h.l2 rfl
  simp at h1
  subst h1
  refine ⟨h.r1, h.r2, fun e => ?_, fun _ => ⟨g, c2, rfl, h2, hb, rfl, fun _ => rfl⟩, h.ne⟩
  obtain ⟨g2, cs2, k1, k2, k3, k4, k5⟩ := h.l1 e
  refine ⟨g2, cs2, k1, k2, ho _ _ _ (fun e2 => ?_) k3, k4, k5⟩
  subst e2
  exact h.ne e rfl k1
end

end Go.Proofs.Ytannipfohicpmaa.Inv2
