/- Words for memory: a slice that reads as a list of structs; what a call that makes memory leaves as it was. -/
import Derived.Test.YtannipfohicpmaaProg
import Derived.Test.YtannipfohicpmaaSpec
import Derived.WalkKit
import Derived.WalkLawsBesides
import Derived.WalkSpells
import Derived.Lib.Hide
namespace Go.Proofs.Ytannipfohicpmaa
open Go.RowKit Mpl

/-- n elements of k cells each, below block B -/
def Sl (w : World) (B k : Nat) (A : Option Addr) (n : Nat) (f : Nat → Nat → Value) : Prop :=
  0 < n → ∃ b off, A = some ⟨b, off, none⟩ ∧ b < B ∧ ∀ i, i < n → ∀ j, j < k → w.cell? ⟨b, off + i * k + j, none⟩ = some (f i j)

section
variable {w w' : World} {B B' k n : Nat} {A : Option Addr} {f : Nat → Nat → Value}
theorem Sl.up (h : Sl w B k A n f) (hb : Below B w w') (hB : B ≤ B') : Sl w' B' k A n f := fun h0 => by
  obtain ⟨b, off, rfl, hlt, hc⟩ := h h0
  exact ⟨b, off, rfl, Nat.lt_of_lt_of_le hlt hB, fun i hi j hj => (hb.cell (p := ⟨b, off + i * k + j, none⟩) hlt).trans (hc i hi j hj)⟩
theorem Sl.keep (h : Sl w B k A n f) (hb : Below B w w') : Sl w' B k A n f := h.up hb (Nat.le_refl _)
theorem Sl.congr {g : Nat → Nat → Value} (h : Sl w B k A n f) (hfg : ∀ i, i < n → ∀ j, j < k → f i j = g i j) : Sl w B k A n g := fun h0 => by
  obtain ⟨b, off, rfl, hlt, hc⟩ := h h0
  exact ⟨b, off, rfl, hlt, fun i hi j hj => (hc i hi j hj).trans (by rw [hfg i hi j hj])⟩
end

/-! ### knots -/
def knF (ks : List Knot) (i j : Nat) : Value := if j = 0 then .int .i64 (kn ks i).At else .int .i64 (kn ks i).V
def Knots (w : World) (B : Nat) (A : Option Addr) (ks : List Knot) : Prop := Sl w B 2 A ks.length (knF ks)
section
variable {w w' : World} {B B' : Nat} {A : Option Addr} {ks : List Knot}
theorem Knots.up (h : Knots w B A ks) (hb : Below B w w') (hB : B ≤ B') : Knots w' B' A ks := Sl.up h hb hB
theorem Knots.keep (h : Knots w B A ks) (hb : Below B w w') : Knots w' B A ks := Sl.keep h hb
theorem Knots.out (h : Knots w B A ks) (h0 : 0 < ks.length) : ∃ b off, A = some ⟨b, off, none⟩ ∧ b < B ∧ ∀ i, i < ks.length →
    w.cell? ⟨b, off + i * 2, none⟩ = some (.int .i64 (kn ks i).At) ∧ w.cell? ⟨b, off + i * 2 + 1, none⟩ = some (.int .i64 (kn ks i).V) := by
  obtain ⟨b, off, rfl, hlt, hc⟩ := h h0
  exact ⟨b, off, rfl, hlt, fun i hi => ⟨hc i hi 0 (by omega), hc i hi 1 (by omega)⟩⟩
theorem Knots.at_ (h : Knots w B A ks) {i : Nat} (hi : i < ks.length) : ∃ b off, A = some ⟨b, off, none⟩ ∧ b < B ∧
    w.cell? ⟨b, off + i * 2, none⟩ = some (.int .i64 (kn ks i).At) ∧ w.cell? ⟨b, off + i * 2 + 1, none⟩ = some (.int .i64 (kn ks i).V) := by
  obtain ⟨b, off, hA, hlt, hc⟩ := h.out (by omega)
  exact ⟨b, off, hA, hlt, hc i hi⟩
end

/-- a line as a value -/
def LineV (w : World) (B : Nat) (v : Value) (ks : List Knot) : Prop := ∃ A c, v = .agg #[.slice A ks.length c] ∧ Knots w B A ks
theorem LineV.up {w w' : World} {B B' : Nat} {v : Value} {ks : List Knot} (h : LineV w B v ks) (hb : Below B w w') (hB : B ≤ B') : LineV w' B' v ks := by
  obtain ⟨A, c, rfl, hk⟩ := h
  exact ⟨A, c, rfl, hk.up hb hB⟩

theorem ret_int {k : IntKind} {a b : Int} (h : a = b) : Ending.returned (.int k a) = .returned (.int k b) := by rw [h]
theorem ret_bool {a b : Bool} (h : a = b) : Ending.returned (.bool a) = .returned (.bool b) := by rw [h]

theorem bcell {W w1 : World} {B : Nat} (hb : Below B W w1) : (∀ b o, b < B → w1.cell? ⟨b, o, none⟩ = W.cell? ⟨b, o, none⟩) ∧ (∀ b o, b < B → w1.frozen? ⟨b, o, none⟩ = W.frozen? ⟨b, o, none⟩) :=
  ⟨fun b o h => hb.cell (p := ⟨b, o, none⟩) h, fun b o h => hb.frozen (p := ⟨b, o, none⟩) h⟩

/-- block g holds just these cells, none of them frozen -/
def Box (w : World) (g : Nat) (t : TypeId) (cs : Array Value) : Prop := w.heap[g]? = some (.cells cs t (0, 0))
section
variable {w w' : World} {g B : Nat} {t : TypeId} {cs : Array Value}
theorem Box.lt (h : Box w g t cs) : g < w.heap.size := by
  rcases Nat.lt_or_ge g w.heap.size with hl | hl
  · exact hl
  · unfold Box at h
    rw [Array.getElem?_eq_none hl] at h
    cases h
theorem Box.cell (h : Box w g t cs) (j : Nat) : w.cell? ⟨g, j, none⟩ = cs[j]? := by
  unfold World.cell?
  unfold Box at h
  simp only [h]
  simp
theorem Box.frozen (h : Box w g t cs) (j : Nat) : w.frozen? ⟨g, j, none⟩ = false := by
  unfold World.frozen?
  unfold Box at h
  simp only [h]
  simp
theorem Box.new (w : World) (t : TypeId) (cs : Array Value) (h : g = w.heap.size) : Box (w.alloc (.cells cs t)) g t cs := by
  subst h
  exact heap_alloc_new w _
theorem Box.alloc (h : Box w g t cs) (o : Obj) : Box (w.alloc o) g t cs := (Below.heap_alloc w o g h.lt).trans h
theorem Box.drew (h : Box w g t cs) : Box w.drew g t cs := h
theorem Box.drewN (h : Box w g t cs) (n : Nat) : Box (w.drewN n) g t cs := h
theorem Box.below (h : Box w g t cs) (hb : Below B w w') (hg : g < B) : Box w' g t cs := (hb.block g hg).trans h
theorem Box.under (h : Box w g t cs) (hb : Below w.heap.size w w') : Box w' g t cs := h.below hb h.lt
theorem Box.set_ (h : Box w g t cs) (j : Nat) (u : Value) : Box (w.setCell ⟨g, j, none⟩ u) g t (cs.setIfInBounds j u) := by
  unfold Box at h ⊢
  simp [World.setCell, Array.getElem?_modify, h]
theorem Box.far (h : Box w g t cs) {p : Addr} (hp : g ≠ p.block) (u : Value) : Box (w.setCell p u) g t cs := (Below.heap_setCell w p u g hp).trans h
end
theorem belowDrewN {B : Nat} {a w : World} (h : Below B a w) (n : Nat) : Below B a (w.drewN n) := ⟨h.os, h.tape, h.output, h.size, h.block⟩

theorem oldCell {B b j : Nat} {w w' : World} {v : Value} (h : Below B w w') (hb : b < B) (hc : w.cell? ⟨b, j, none⟩ = some v) : w'.cell? ⟨b, j, none⟩ = some v :=
  (h.cell (p := ⟨b, j, none⟩) hb).trans hc

end Go.Proofs.Ytannipfohicpmaa
