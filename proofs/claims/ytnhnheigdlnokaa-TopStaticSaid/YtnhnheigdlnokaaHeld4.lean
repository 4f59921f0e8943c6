/- A region that draws its order: one operation taken first, its slot named, so that the frame does not grow. -/
import Derived.Test.YtnhnheigdlnokaaHeld3
namespace Go.Proofs.Ytnhnheigdlnokaa
open Go.RowKit

section
variable {P : Program} {ops : Array Oper} {Q : Exit → Act → World → Prop} {md : Region.Mode}
theorem AnyBut.takeD {S : World → Prop} {z : Nat} (i t : Nat) {o : Oper} {v : Value} {m : Nat} {b : Array Bool} {tm : Array Value} {de : List Deferred} {w : World} (ho : ops[i]? = some o) (hd : o.dst = some t) (hk : (Region.noSelect ops && Region.free md ops b i && (Region.ready md ops b).contains i && waits md ops z i) = true)
    (hQ : ∀ c a w, Q (.panic c) (a.put o.dst v) w → Q (.panic c) a w) (hS : S w) (hy : YieldsIf P ops S o v ⟨tm, de⟩) (h : AnyBut P md ops Q S z m (b.setIfInBounds i true) ⟨tm.setIfInBounds t v, de⟩ w) : AnyBut P md ops Q S z (m + 1) b ⟨tm, de⟩ w := by
  simp only [Bool.and_eq_true] at hk
  obtain ⟨⟨⟨k1, k2⟩, k3⟩, k4⟩ := hk
  refine AnyBut.take ho k1 k2 k3 k4 hQ hS hy ?_
  rw [hd]
  exact h
/-- one of two operations may come up -/
theorem AnyBut.two {S : World → Prop} {z : Nat} (i j : Nat) {o o' : Oper} {m : Nat} {b : Array Bool} {a : Act} {w : World} (hr : Region.ready md ops b = [i, j]) (ho : ops[i]? = some o) (hg : o.guard = none) (ho' : ops[j]? = some o') (hg' : o'.guard = none)
    (h : ∀ K : Act → World → Prop, (∀ a' w', (i ≠ z → S w') → AnyBut P md ops Q S z m (b.setIfInBounds i true) a' w' → K a' w') → o.wp P a w K Q)
    (h' : ∀ K : Act → World → Prop, (∀ a' w', (j ≠ z → S w') → AnyBut P md ops Q S z m (b.setIfInBounds j true) a' w' → K a' w') → o'.wp P a w K Q) : AnyBut P md ops Q S z (m + 1) b a w :=
  ⟨fun h0 => (by rw [hr] at h0; cases h0), fun l hl => by
    rw [hr] at hl
    simp only [List.mem_cons, List.not_mem_nil, or_false] at hl
    rcases hl with rfl | rfl
    · unfold wpOp
      simp only [ho]
      rw [if_pos (by simp [Region.wanted, hg])]
      exact .inl (h _ fun a' w' h1 h2 => ⟨h1, h2⟩)
    · unfold wpOp
      simp only [ho']
      rw [if_pos (by simp [Region.wanted, hg'])]
      exact .inl (h' _ fun a' w' h1 h2 => ⟨h1, h2⟩)⟩
theorem AnyMid.takeD {q : Nat} {S : Bool → World → Prop} {Z : Nat → Bool} (T : World → Prop) (i t : Nat) {o : Oper} {v : Value} {m : Nat} {b : Array Bool} {tm : Array Value} {de : List Deferred} {w : World} (zs : List Nat) (nf : Nat) (hz : ∀ z, Z z = true → z ∈ zs) (h0 : ∀ w, S false w → T w) (h1 : waitsN md ops nf q i = true ∨ ∀ w, S true w → T w) (hS : S (b.getD q true) w) (ho : ops[i]? = some o) (hd : o.dst = some t)
    (hk : (Region.noSelect ops && Region.free md ops b i && (Region.ready md ops b).contains i && zs.all (fun z => waitsN md ops nf z i) && closedB md ops b && !(i == q)) = true)
    (hQ : ∀ c a w, Q (.panic c) (a.put o.dst v) w → Q (.panic c) a w) (hy : YieldsIf P ops T o v ⟨tm, de⟩) (h : AnyMid P md ops Q q S Z m (b.setIfInBounds i true) ⟨tm.setIfInBounds t v, de⟩ w) : AnyMid P md ops Q q S Z (m + 1) b ⟨tm, de⟩ w := by
  refine AnyMid.take T zs nf hz h0 h1 hS ho hk hQ hy ?_
  rw [hd]
  exact h
end

end Go.Proofs.Ytnhnheigdlnokaa
