/- Arguments opened: what the readings of tests, loads, jobs and numbers say of memory. -/
import Derived.Test.YtnhnheigdlnokaaProven
import Derived.Test.YtnhnheigdlnokaaRows
import Derived.ProofKit
import Derived.OpenShut
import Derived.Deep.Slices
import Derived.ChangeOld
namespace Go.Proofs.Ytnhnheigdlnokaa
open Go.ChangeShapes Go.WideShapes Go.ChangeAt Go.RowKit Go.Deep Mpl

instance : Inhabited Knot := ⟨⟨0, 0⟩⟩

theorem own : ownKnob Try.prog.godebug = none := by kernel_rfl
theorem laidOut : laidOutB Try.prog = true := by kernel_rfl

theorem in_of_wf {n : Int} (h : (Lit.int .i64 n).wf = true) : inI64 n := by
  have : -9223372036854775808 ≤ n ∧ n ≤ 9223372036854775807 := by simpa [Lit.wf, IntKind.min, IntKind.max, IntKind.signed, IntKind.bits] using h
  exact this

section
variable {H : Type} {enc : TypeId × Value → H} {w : World} {base : Nat} {spare : Nat → Bool} {held : Bool}

/-- a slice whose elements have k cells: the cells of each element, and its reading -/
theorem slice_cells {t e : TypeId} {k fuel : Nat} {v : Value} {x : DataW H × List MemPlace} (ht : Try.prog.underlying t = some (.slice e)) (hk : Try.prog.cellsOf e = k) (hk0 : 0 < k) (h : DataW.trod enc Try.prog w base spare held fuel t [v] = some x) :
    ∃ A n c, v = .slice A n c ∧ n ≤ c ∧ c ≤ maxLen ∧ (0 < n → ∃ b off, A = some ⟨b, off, none⟩ ∧ b < w.heap.size ∧ ∃ m, ∀ i, i < n → ∃ cs y, cs.length = k ∧ (∀ j, j < k → w.cell? ⟨b, off + i * k + j, none⟩ = cs[j]?) ∧ DataW.trod enc Try.prog w base spare held m e cs = some y) := by
  rcases open_slice ht h with ⟨h0, _⟩ | ⟨a, len, cap, m, n, D, Pl, hcs, hb, hl, hm, hmm, hx, hi⟩
  · simp at h0
    exact ⟨none, 0, 0, h0, by omega, by omega, fun h => absurd h (by omega)⟩
  · simp at hcs
    refine ⟨some a, len, cap, hcs, hl, hm, fun h0 => ?_⟩
    have hlm : len ≤ m := by rw [hmm]; split <;> omega
    have hone : ∀ i, i < len → ∃ cs y, cs.length = k ∧ (∀ j, j < k → w.cell? (a.add (i * k + j)) = cs[j]?) ∧ DataW.trod enc Try.prog w base spare held n e cs = some y := fun i hlt => by
      obtain ⟨cs', hc, ht'⟩ := hi i (by omega)
      rw [hk] at hc
      obtain ⟨_, hcl, hat⟩ := World.cells?_some hc
      refine ⟨cs', _, hcl, fun j hj => ?_, ht'⟩
      rw [← Go.Deep.add_add]
      exact hat j hj
    obtain ⟨b, off, spot⟩ := a
    obtain ⟨cs0, y0, hl0, hc0, _⟩ := hone 0 h0
    have hc00 := hc0 0 hk0
    rw [List.getElem?_eq_getElem (by omega)] at hc00
    have hspot : spot = none := by simpa [Addr.add] using World.cell?_spot hc00
    subst hspot
    have hblt : b < w.heap.size := by
      have hc1 : w.cell? ⟨b, off, none⟩ = some (cs0[0]'(by omega)) := by simpa [Addr.add] using hc00
      rcases Nat.lt_or_ge b w.heap.size with h | h
      · exact h
      · unfold World.cell? at hc1
        simp only [Array.getElem?_eq_none h] at hc1
        cases hc1
    refine ⟨b, off, rfl, hblt, n, fun i hlt => ?_⟩
    obtain ⟨cs, y, h1, h2, h3⟩ := hone i hlt
    refine ⟨cs, y, h1, fun j hj => ?_, h3⟩
    have := h2 j hj
    rwa [Addr.add_lit, ← Nat.add_assoc] at this

/-- a struct's fields, one after the other -/
theorem struct_field {t : TypeId} {fs : Array Field} {fuel : Nat} {cs : List Value} {x : DataW H × List MemPlace} (ht : Try.prog.underlying t = some (.struct fs)) (h : DataW.trod enc Try.prog w base spare held fuel t cs = some x) (i : Nat) (f : Field) (hf : fs[i]? = some f) :
    ∃ n y, DataW.trod enc Try.prog w base spare held n f.type ((cs.drop f.offset).take (Try.prog.cellsOf f.type)) = some y := by
  obtain ⟨xs, n, _, _, _, hlen, hat⟩ := DataW.trod_struct ht h
  have hlt : i < fs.size := (Array.getElem?_eq_some_iff.1 hf).1
  exact ⟨n, xs[i]'(by omega), by rw [hat i f hf, List.getElem?_eq_getElem (by omega)]⟩
end

section
variable {H : Type} {enc : TypeId × Value → H} {w : World} {base : Nat} {spare : Nat → Bool} {held : Bool}

theorem cell_of_take {cs : List Value} {o : Nat} {v : Value} (h : (cs.drop o).take 1 = [v]) : cs[o]? = some v := by
  have := congrArg (fun l => l[0]?) h
  simpa using this
theorem take_of_cell {cs : List Value} {o : Nat} {v : Value} (h : cs[o]? = some v) : (cs.drop o).take 1 = [v] := by
  obtain ⟨hlt, hv⟩ := List.getElem?_eq_some_iff.1 h
  rw [List.drop_eq_getElem_cons hlt, hv]
  rfl

theorem field_i64 {t : TypeId} {fs : Array Field} {fuel : Nat} {cs : List Value} {x : DataW H × List MemPlace} (ht : Try.prog.underlying t = some (.struct fs)) (h : DataW.trod enc Try.prog w base spare held fuel t cs = some x) (i : Nat) (f : Field) (hf : fs[i]? = some f)
    (hu : Try.prog.underlying f.type = some (.int .i64)) (hc : Try.prog.cellsOf f.type = 1) : ∃ n, cs[f.offset]? = some (.int .i64 n) ∧ inI64 n := by
  obtain ⟨m, y, hy⟩ := struct_field ht h i f hf
  rw [hc] at hy
  obtain ⟨n, hn, _, hwf⟩ := DataW.trod_int hu hy
  exact ⟨n, cell_of_take hn, in_of_wf hwf⟩
theorem field_bool {t : TypeId} {fs : Array Field} {fuel : Nat} {cs : List Value} {x : DataW H × List MemPlace} (ht : Try.prog.underlying t = some (.struct fs)) (h : DataW.trod enc Try.prog w base spare held fuel t cs = some x) (i : Nat) (f : Field) (hf : fs[i]? = some f)
    (hu : Try.prog.underlying f.type = some .bool) (hc : Try.prog.cellsOf f.type = 1) : ∃ b, cs[f.offset]? = some (.bool b) := by
  obtain ⟨m, y, hy⟩ := struct_field ht h i f hf
  rw [hc] at hy
  obtain ⟨b, hb, _⟩ := DataW.trod_bool hu hy
  exact ⟨b, cell_of_take hb⟩
/-- a field of one cell, whatever it is: the cell, and its reading -/
theorem field_one {t : TypeId} {fs : Array Field} {fuel : Nat} {cs : List Value} {x : DataW H × List MemPlace} (ht : Try.prog.underlying t = some (.struct fs)) (h : DataW.trod enc Try.prog w base spare held fuel t cs = some x) (i : Nat) (f : Field) (hf : fs[i]? = some f)
    (hc : Try.prog.cellsOf f.type = 1) (hlt : f.offset < cs.length) : ∃ v m y, cs[f.offset]? = some v ∧ DataW.trod enc Try.prog w base spare held m f.type [v] = some y := by
  obtain ⟨m, y, hy⟩ := struct_field ht h i f hf
  rw [hc] at hy
  have hv : cs[f.offset]? = some cs[f.offset] := List.getElem?_eq_getElem hlt
  rw [take_of_cell hv] at hy
  exact ⟨_, m, y, hv, hy⟩

/-- all numbers of a list fit -/
def IntsIn (l : List Int) : Prop := ∀ i, inI64 (pick l i)
theorem open_longs {t e : TypeId} (ht : Try.prog.underlying t = some (.slice e)) (hu : Try.prog.underlying e = some (.int .i64)) (hc1 : Try.prog.cellsOf e = 1) {fuel : Nat} {v : Value} {x : DataW H × List MemPlace} (h : DataW.trod enc Try.prog w base spare held fuel t [v] = some x) :
    ∃ A c l, v = .slice A l.length c ∧ l.length ≤ c ∧ c ≤ maxLen ∧ Ints w w.heap.size A l ∧ IntsIn l := by
  obtain ⟨A, n, c, hv, hnc, hcm, hs⟩ := slice_cells ht (k := 1) hc1 (by omega) h
  have hx : ∀ i, i < n → ∃ t : Int, inI64 t ∧ ∀ b off, A = some ⟨b, off, none⟩ → b < w.heap.size ∧ w.cell? ⟨b, off + i, none⟩ = some (.int .i64 t) := fun i hi => by
    obtain ⟨b, off, rfl, hb, m, hm⟩ := hs (by omega)
    obtain ⟨cs, y, hl, hc, hr⟩ := hm i hi
    obtain ⟨n0, e0, _, hwf⟩ := DataW.trod_int hu hr
    refine ⟨n0, in_of_wf hwf, fun b' off' he => ?_⟩
    simp at he
    obtain ⟨rfl, rfl⟩ := he
    have := hc 0 (by omega)
    rw [e0] at this
    exact ⟨hb, by simpa using this⟩
  obtain ⟨f, hf⟩ := choose_lt (α := Int) hx
  have hts : ∀ i, i < n → pick ((List.range n).map f) i = f i := fun i hi => by simp [pick, hi]
  refine ⟨A, c, (List.range n).map f, by simpa using hv, by simpa using hnc, hcm, fun h0 => ?_, fun i => ?_⟩
  · have h0' : 0 < n := by simpa using h0
    obtain ⟨b, off, rfl, hb, _⟩ := hs h0'
    refine ⟨b, off, rfl, hb, fun i hi => ?_⟩
    have hi' : i < n := by simpa using hi
    rw [hts i hi']
    exact ((hf i hi').2 b off rfl).2
  · rcases Nat.lt_or_ge i n with hi | hi
    · rw [hts i hi]; exact (hf i hi).1
    · have : pick ((List.range n).map f) i = 0 := by simp [pick, hi]
      rw [this]
      unfold inI64
      simp
end


end Go.Proofs.Ytnhnheigdlnokaa
