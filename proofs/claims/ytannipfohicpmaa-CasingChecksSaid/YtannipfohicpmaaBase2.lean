/- Words for memory, second part: slices of ints, grades, loads; jobs. -/
import Derived.Test.YtannipfohicpmaaBase
namespace Go.Proofs.Ytannipfohicpmaa
open Go.RowKit Mpl

/-! ### ints -/
def Ints (w : World) (B : Nat) (A : Option Addr) (l : List Int) : Prop :=
  0 < l.length → ∃ b off, A = some ⟨b, off, none⟩ ∧ b < B ∧ ∀ i, i < l.length → w.cell? ⟨b, off + i, none⟩ = some (.int .i64 (pick l i))
theorem Ints.up {w w' : World} {B B' : Nat} {A : Option Addr} {l : List Int} (h : Ints w B A l) (hb : Below B w w') (hB : B ≤ B') : Ints w' B' A l := fun h0 => by
  obtain ⟨b, off, rfl, hlt, hc⟩ := h h0
  exact ⟨b, off, rfl, Nat.lt_of_lt_of_le hlt hB, fun i hi => oldCell hb hlt (hc i hi)⟩

/-! ### grades -/
def Grades (w : World) (B : Nat) (A : Option Addr) (l : List Grade) : Prop :=
  0 < l.length → ∃ b off, A = some ⟨b, off, none⟩ ∧ b < B ∧ ∀ i, i < l.length → w.cell? ⟨b, off + i * 5, none⟩ = some (.int .i64 (gd l i).Burst) ∧ w.cell? ⟨b, off + i * 5 + 1, none⟩ = some (.int .i64 (gd l i).Collapse) ∧
    w.cell? ⟨b, off + i * 5 + 2, none⟩ = some (.int .i64 (gd l i).Pull) ∧ w.cell? ⟨b, off + i * 5 + 3, none⟩ = some (.int .i64 (gd l i).Weight) ∧ w.cell? ⟨b, off + i * 5 + 4, none⟩ = some (.int .i64 (gd l i).Cost)
theorem Grades.up {w w' : World} {B B' : Nat} {A : Option Addr} {l : List Grade} (h : Grades w B A l) (hb : Below B w w') (hB : B ≤ B') : Grades w' B' A l := fun h0 => by
  obtain ⟨b, off, rfl, hlt, hc⟩ := h h0
  exact ⟨b, off, rfl, Nat.lt_of_lt_of_le hlt hB, fun i hi => ⟨oldCell hb hlt (hc i hi).1, oldCell hb hlt (hc i hi).2.1, oldCell hb hlt (hc i hi).2.2.1, oldCell hb hlt (hc i hi).2.2.2.1, oldCell hb hlt (hc i hi).2.2.2.2⟩⟩
def gradeV (g : Grade) : Value := .agg #[.int .i64 g.Burst, .int .i64 g.Collapse, .int .i64 g.Pull, .int .i64 g.Weight, .int .i64 g.Cost]

/-! ### loads -/
def Loads (w : World) (B : Nat) (A : Option Addr) (l : List Stress) : Prop :=
  0 < l.length → ∃ (b off : Nat) (AI AO : Nat → Option Addr) (cI cO : Nat → Nat), A = some ⟨b, off, none⟩ ∧ b < B ∧ ∀ i, i < l.length →
    w.cell? ⟨b, off + i * 2, none⟩ = some (.slice (AI i) (ld l i).In.length (cI i)) ∧ w.cell? ⟨b, off + i * 2 + 1, none⟩ = some (.slice (AO i) (ld l i).Out.length (cO i)) ∧
    Knots w B (AI i) (ld l i).In ∧ Knots w B (AO i) (ld l i).Out
theorem Loads.up {w w' : World} {B B' : Nat} {A : Option Addr} {l : List Stress} (h : Loads w B A l) (hb : Below B w w') (hB : B ≤ B') : Loads w' B' A l := fun h0 => by
  obtain ⟨b, off, AI, AO, cI, cO, rfl, hlt, hc⟩ := h h0
  exact ⟨b, off, AI, AO, cI, cO, rfl, Nat.lt_of_lt_of_le hlt hB, fun i hi => ⟨oldCell hb hlt (hc i hi).1, oldCell hb hlt (hc i hi).2.1, (hc i hi).2.2.1.up hb hB, (hc i hi).2.2.2.up hb hB⟩⟩

def StressV (w : World) (B : Nat) (v : Value) (l : Stress) : Prop :=
  ∃ AI cI AO cO, v = .agg #[.slice AI l.In.length cI, .slice AO l.Out.length cO] ∧ Knots w B AI l.In ∧ Knots w B AO l.Out
theorem StressV.up {w w' : World} {B B' : Nat} {v : Value} {l : Stress} (h : StressV w B v l) (hb : Below B w w') (hB : B ≤ B') : StressV w' B' v l := by
  obtain ⟨AI, cI, AO, cO, rfl, h1, h2⟩ := h
  exact ⟨AI, cI, AO, cO, rfl, h1.up hb hB, h2.up hb hB⟩
theorem StressV.below {w w' : World} {v : Value} {l : Stress} (h : StressV w w.heap.size v l) (hb : Below w.heap.size w w') : StressV w' w'.heap.size v l := h.up hb hb.size

/-! ### jobs -/
def JobV (w : World) (B : Nat) (v : Value) (j : Job) : Prop :=
  ∃ AE cE AL cL AG cG, v = .agg #[.slice AE j.Ends.length cE, .slice AL j.Loads.length cL, .slice AG j.Grades.length cG, .int .i64 j.Factor, .int .i64 j.Over] ∧
    j.Ends.length ≤ cE ∧ Ints w B AE j.Ends ∧ Loads w B AL j.Loads ∧ Grades w B AG j.Grades
theorem JobV.up {w w' : World} {B B' : Nat} {v : Value} {j : Job} (h : JobV w B v j) (hb : Below B w w') (hB : B ≤ B') : JobV w' B' v j := by
  obtain ⟨AE, cE, AL, cL, AG, cG, rfl, hc, h1, h2, h3⟩ := h
  exact ⟨AE, cE, AL, cL, AG, cG, rfl, hc, h1.up hb hB, h2.up hb hB, h3.up hb hB⟩
theorem JobV.below {w w' : World} {v : Value} {j : Job} (h : JobV w w.heap.size v j) (hb : Below w.heap.size w w') : JobV w' w'.heap.size v j := h.up hb hb.size
theorem JobV.alloc {w : World} {v : Value} {j : Job} (h : JobV w w.heap.size v j) (o : Obj) : JobV (w.alloc o) (w.alloc o).heap.size v j := h.below ((Below.refl _ _).alloc (Nat.le_refl _) _)

end Go.Proofs.Ytannipfohicpmaa
