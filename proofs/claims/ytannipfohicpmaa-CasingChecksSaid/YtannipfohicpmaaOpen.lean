/- Arguments opened: what the readings of tests, loads, jobs and numbers say of memory. -/
import Derived.Test.YtannipfohicpmaaProven
import Derived.Test.YtannipfohicpmaaRows
import Derived.ProofKit
import Derived.OpenShut
import Derived.Deep.Slices
import Derived.ChangeOld
namespace Go.Proofs.Ytannipfohicpmaa
open Go.ChangeShapes Go.WideShapes Go.ChangeAt Go.RowKit Go.Deep Mpl

instance : Inhabited Test := ⟨⟨0, false, 0⟩⟩
instance : Inhabited Knot := ⟨⟨0, 0⟩⟩
instance : Inhabited Grade := ⟨⟨0, 0, 0, 0, 0⟩⟩
instance : Inhabited Stress := ⟨⟨[], []⟩⟩

theorem own : ownKnob Try.prog.godebug = none := by kernel_rfl
theorem laidOut : laidOutB Try.prog = true := by kernel_rfl

theorem in_of_wf {n : Int} (h : (Lit.int .i64 n).wf = true) : inI64 n := by
  have : -9223372036854775808 ≤ n ∧ n ≤ 9223372036854775807 := by simpa [Lit.wf, IntKind.min, IntKind.max, IntKind.signed, IntKind.bits] using h
  exact this

section
variable {H : Type} {enc : TypeId × Value → H} {w : World} {base : Nat} {spare : Nat → Bool} {held : Bool}

/-- a slice whose elements have k cells: the cells of each element, and its reading -/
theorem slice_cells {t e : TypeId} {k fuel : Nat} {v : Value} {x : DataW H × List MemPlace} (ht : Try.prog.underlying t = some (.slice e)) (hk : Try.prog.cellsOf e = k) (hk0 : 0 < k) (h : DataW.trod enc Try.prog w base spare held fuel t [v] = some x) :
    ∃ A n c, v = .slice A n c ∧ n ≤ c ∧ c ≤ maxLen ∧ (0 < n → ∃ b off, A = some ⟨b, off, none⟩ ∧ b < w.heap.size ∧ ∃ m, ∀ i, i < n → ∃ cs y, cs.length = k ∧ (∀ j, j < k → w.cell? ⟨b, off + i * k + j, none⟩ = cs[j]?) ∧ DataW.trod enc Try.prog w base spare held m e cs = some y) := by
  rcases open_slice ht h with ⟨h0, _⟩ | ⟨a, len, cap, m, n, D, Pl, hcs, hb, hl, hm, hmm, hx, hi⟩
  · simp at h0
    exact ⟨none, 0, 0, h0, by omega, by omega, fun h => absurd h (by omega)⟩
  · simp at hcs
    refine ⟨some a, len, cap, hcs, hl, hm, fun h0 => ?_⟩
    have hlm : len ≤ m := by rw [hmm]; split <;> omega
    have hone : ∀ i, i < len → ∃ cs y, cs.length = k ∧ (∀ j, j < k → w.cell? (a.add (i * k + j)) = cs[j]?) ∧ DataW.trod enc Try.prog w base spare held n e cs = some y := fun i hlt => by
      obtain ⟨cs', hc, ht'⟩ := hi i (by omega)
      rw [hk] at hc
      obtain ⟨_, hcl, hat⟩ := World.cells?_some hc
      refine ⟨cs', _, hcl, fun j hj => ?_, ht'⟩
      rw [← Go.Deep.add_add]
      exact hat j hj
    obtain ⟨b, off, spot⟩ := a
    obtain ⟨cs0, y0, hl0, hc0, _⟩ := hone 0 h0
    have hc00 := hc0 0 hk0
    rw [List.getElem?_eq_getElem (by omega)] at hc00
    have hspot : spot = none := by simpa [Addr.add] using World.cell?_spot hc00
    subst hspot
    have hblt : b < w.heap.size := by
      have hc1 : w.cell? ⟨b, off, none⟩ = some (cs0[0]'(by omega)) := by simpa [Addr.add] using hc00
      rcases Nat.lt_or_ge b w.heap.size with h | h
      · exact h
      · unfold World.cell? at hc1
        simp only [Array.getElem?_eq_none h] at hc1
        cases hc1
    refine ⟨b, off, rfl, hblt, n, fun i hlt => ?_⟩
    obtain ⟨cs, y, h1, h2, h3⟩ := hone i hlt
    refine ⟨cs, y, h1, fun j hj => ?_, h3⟩
    have := h2 j hj
    rwa [Addr.add_lit, ← Nat.add_assoc] at this

/-- a struct's fields, one after the other -/
theorem struct_field {t : TypeId} {fs : Array Field} {fuel : Nat} {cs : List Value} {x : DataW H × List MemPlace} (ht : Try.prog.underlying t = some (.struct fs)) (h : DataW.trod enc Try.prog w base spare held fuel t cs = some x) (i : Nat) (f : Field) (hf : fs[i]? = some f) :
    ∃ n y, DataW.trod enc Try.prog w base spare held n f.type ((cs.drop f.offset).take (Try.prog.cellsOf f.type)) = some y := by
  obtain ⟨xs, n, _, _, _, hlen, hat⟩ := DataW.trod_struct ht h
  have hlt : i < fs.size := (Array.getElem?_eq_some_iff.1 hf).1
  exact ⟨n, xs[i]'(by omega), by rw [hat i f hf, List.getElem?_eq_getElem (by omega)]⟩
end

section
variable {H : Type} {enc : TypeId × Value → H} {w : World} {base : Nat} {spare : Nat → Bool} {held : Bool}

theorem cell_of_take {cs : List Value} {o : Nat} {v : Value} (h : (cs.drop o).take 1 = [v]) : cs[o]? = some v := by
  have := congrArg (fun l => l[0]?) h
  simpa using this
theorem take_of_cell {cs : List Value} {o : Nat} {v : Value} (h : cs[o]? = some v) : (cs.drop o).take 1 = [v] := by
  obtain ⟨hlt, hv⟩ := List.getElem?_eq_some_iff.1 h
  rw [List.drop_eq_getElem_cons hlt, hv]
  rfl

theorem field_i64 {t : TypeId} {fs : Array Field} {fuel : Nat} {cs : List Value} {x : DataW H × List MemPlace} (ht : Try.prog.underlying t = some (.struct fs)) (h : DataW.trod enc Try.prog w base spare held fuel t cs = some x) (i : Nat) (f : Field) (hf : fs[i]? = some f)
    (hu : Try.prog.underlying f.type = some (.int .i64)) (hc : Try.prog.cellsOf f.type = 1) : ∃ n, cs[f.offset]? = some (.int .i64 n) ∧ inI64 n := by
  obtain ⟨m, y, hy⟩ := struct_field ht h i f hf
  rw [hc] at hy
  obtain ⟨n, hn, _, hwf⟩ := DataW.trod_int hu hy
  exact ⟨n, cell_of_take hn, in_of_wf hwf⟩
theorem field_bool {t : TypeId} {fs : Array Field} {fuel : Nat} {cs : List Value} {x : DataW H × List MemPlace} (ht : Try.prog.underlying t = some (.struct fs)) (h : DataW.trod enc Try.prog w base spare held fuel t cs = some x) (i : Nat) (f : Field) (hf : fs[i]? = some f)
    (hu : Try.prog.underlying f.type = some .bool) (hc : Try.prog.cellsOf f.type = 1) : ∃ b, cs[f.offset]? = some (.bool b) := by
  obtain ⟨m, y, hy⟩ := struct_field ht h i f hf
  rw [hc] at hy
  obtain ⟨b, hb, _⟩ := DataW.trod_bool hu hy
  exact ⟨b, cell_of_take hb⟩
/-- a field of one cell, whatever it is: the cell, and its reading -/
theorem field_one {t : TypeId} {fs : Array Field} {fuel : Nat} {cs : List Value} {x : DataW H × List MemPlace} (ht : Try.prog.underlying t = some (.struct fs)) (h : DataW.trod enc Try.prog w base spare held fuel t cs = some x) (i : Nat) (f : Field) (hf : fs[i]? = some f)
    (hc : Try.prog.cellsOf f.type = 1) (hlt : f.offset < cs.length) : ∃ v m y, cs[f.offset]? = some v ∧ DataW.trod enc Try.prog w base spare held m f.type [v] = some y := by
  obtain ⟨m, y, hy⟩ := struct_field ht h i f hf
  rw [hc] at hy
  have hv : cs[f.offset]? = some cs[f.offset] := List.getElem?_eq_getElem hlt
  rw [take_of_cell hv] at hy
  exact ⟨_, m, y, hv, hy⟩

/-- all numbers of a test fit -/
def TestsIn (l : List Test) : Prop := ∀ i, inI64 (ts l i).P ∧ inI64 (ts l i).Tick
theorem open_tests {fuel : Nat} {v : Value} {x : DataW H × List MemPlace} (h : DataW.trod enc Try.prog w base spare held fuel 52 [v] = some x) :
    ∃ A c l, v = .slice A l.length c ∧ l.length ≤ c ∧ c ≤ maxLen ∧ Tests w w.heap.size A l ∧ TestsIn l := by
  obtain ⟨A, n, c, hv, hnc, hcm, hs⟩ := slice_cells Try.underlying52 (k := 3) (by kernel_rfl) (by omega) h
  have hx : ∀ i, i < n → ∃ t : Test, (inI64 t.P ∧ inI64 t.Tick) ∧ ∀ b off, A = some ⟨b, off, none⟩ → b < w.heap.size ∧ w.cell? ⟨b, off + i * 3, none⟩ = some (.int .i64 t.P) ∧ w.cell? ⟨b, off + i * 3 + 1, none⟩ = some (.bool t.Held) ∧ w.cell? ⟨b, off + i * 3 + 2, none⟩ = some (.int .i64 t.Tick) := fun i hi => by
    obtain ⟨b, off, rfl, hb, m, hm⟩ := hs (by omega)
    obtain ⟨cs, y, hl, hc, hr⟩ := hm i hi
    obtain ⟨n0, e0, i0⟩ := field_i64 Try.underlying55 hr 0 _ rfl Try.underlying2 (by kernel_rfl)
    obtain ⟨n1, e1⟩ := field_bool Try.underlying55 hr 1 _ rfl Try.underlying4 (by kernel_rfl)
    obtain ⟨n2, e2, i2⟩ := field_i64 Try.underlying55 hr 2 _ rfl Try.underlying2 (by kernel_rfl)
    refine ⟨⟨n0, n1, n2⟩, ⟨i0, i2⟩, fun b' off' he => ?_⟩
    simp at he
    obtain ⟨rfl, rfl⟩ := he
    exact ⟨hb, (hc 0 (by omega)).trans e0, (hc 1 (by omega)).trans e1, (hc 2 (by omega)).trans e2⟩
  obtain ⟨f, hf⟩ := choose_lt (α := Test) hx
  have hts : ∀ i, i < n → ts ((List.range n).map f) i = f i := fun i hi => by simp [ts, hi]
  refine ⟨A, c, (List.range n).map f, by simpa using hv, by simpa using hnc, hcm, fun h0 => ?_, fun i => ?_⟩
  · have h0' : 0 < n := by simpa using h0
    obtain ⟨b, off, rfl, hb, _⟩ := hs h0'
    refine ⟨b, off, rfl, hb, fun i hi => ?_⟩
    have hi' : i < n := by simpa using hi
    rw [hts i hi']
    exact ((hf i hi').2 b off rfl).2
  · rcases Nat.lt_or_ge i n with hi | hi
    · rw [hts i hi]; exact (hf i hi).1
    · have : ts ((List.range n).map f) i = ⟨0, false, 0⟩ := by simp [ts, hi]
      rw [this]
      unfold inI64
      simp

/-- all numbers of a list fit -/
def IntsIn (l : List Int) : Prop := ∀ i, inI64 (pick l i)
theorem open_longs {t e : TypeId} (ht : Try.prog.underlying t = some (.slice e)) (hu : Try.prog.underlying e = some (.int .i64)) (hc1 : Try.prog.cellsOf e = 1) {fuel : Nat} {v : Value} {x : DataW H × List MemPlace} (h : DataW.trod enc Try.prog w base spare held fuel t [v] = some x) :
    ∃ A c l, v = .slice A l.length c ∧ l.length ≤ c ∧ c ≤ maxLen ∧ Ints w w.heap.size A l ∧ IntsIn l := by
  obtain ⟨A, n, c, hv, hnc, hcm, hs⟩ := slice_cells ht (k := 1) hc1 (by omega) h
  have hx : ∀ i, i < n → ∃ t : Int, inI64 t ∧ ∀ b off, A = some ⟨b, off, none⟩ → b < w.heap.size ∧ w.cell? ⟨b, off + i, none⟩ = some (.int .i64 t) := fun i hi => by
    obtain ⟨b, off, rfl, hb, m, hm⟩ := hs (by omega)
    obtain ⟨cs, y, hl, hc, hr⟩ := hm i hi
    obtain ⟨n0, e0, _, hwf⟩ := DataW.trod_int hu hr
    refine ⟨n0, in_of_wf hwf, fun b' off' he => ?_⟩
    simp at he
    obtain ⟨rfl, rfl⟩ := he
    have := hc 0 (by omega)
    rw [e0] at this
    exact ⟨hb, by simpa using this⟩
  obtain ⟨f, hf⟩ := choose_lt (α := Int) hx
  have hts : ∀ i, i < n → pick ((List.range n).map f) i = f i := fun i hi => by simp [pick, hi]
  refine ⟨A, c, (List.range n).map f, by simpa using hv, by simpa using hnc, hcm, fun h0 => ?_, fun i => ?_⟩
  · have h0' : 0 < n := by simpa using h0
    obtain ⟨b, off, rfl, hb, _⟩ := hs h0'
    refine ⟨b, off, rfl, hb, fun i hi => ?_⟩
    have hi' : i < n := by simpa using hi
    rw [hts i hi']
    exact ((hf i hi').2 b off rfl).2
  · rcases Nat.lt_or_ge i n with hi | hi
    · rw [hts i hi]; exact (hf i hi).1
    · have : pick ((List.range n).map f) i = 0 := by simp [pick, hi]
      rw [this]
      unfold inI64
      simp
end

section
variable {H : Type} {enc : TypeId × Value → H} {w : World} {base : Nat} {spare : Nat → Bool} {held : Bool}
def KnotsIn (ks : List Knot) : Prop := ∀ i, inI64 (kn ks i).At ∧ inI64 (kn ks i).V
theorem open_knots {fuel : Nat} {v : Value} {x : DataW H × List MemPlace} (h : DataW.trod enc Try.prog w base spare held fuel 22 [v] = some x) :
    ∃ A c l, v = .slice A l.length c ∧ l.length ≤ c ∧ c ≤ maxLen ∧ Knots w w.heap.size A l ∧ KnotsIn l := by
  obtain ⟨A, n, c, hv, hnc, hcm, hs⟩ := slice_cells Try.underlying22 (k := 2) (by kernel_rfl) (by omega) h
  have hx : ∀ i, i < n → ∃ t : Knot, (inI64 t.At ∧ inI64 t.V) ∧ ∀ b off, A = some ⟨b, off, none⟩ → b < w.heap.size ∧ w.cell? ⟨b, off + i * 2, none⟩ = some (.int .i64 t.At) ∧ w.cell? ⟨b, off + i * 2 + 1, none⟩ = some (.int .i64 t.V) := fun i hi => by
    obtain ⟨b, off, rfl, hb, m, hm⟩ := hs (by omega)
    obtain ⟨cs, y, hl, hc, hr⟩ := hm i hi
    obtain ⟨n0, e0, i0⟩ := field_i64 Try.underlying71 hr 0 _ rfl Try.underlying2 (by kernel_rfl)
    obtain ⟨n1, e1, i1⟩ := field_i64 Try.underlying71 hr 1 _ rfl Try.underlying2 (by kernel_rfl)
    refine ⟨⟨n0, n1⟩, ⟨i0, i1⟩, fun b' off' he => ?_⟩
    simp at he
    obtain ⟨rfl, rfl⟩ := he
    exact ⟨hb, (hc 0 (by omega)).trans e0, (hc 1 (by omega)).trans e1⟩
  obtain ⟨f, hf⟩ := choose_lt (α := Knot) hx
  have hts : ∀ i, i < n → kn ((List.range n).map f) i = f i := fun i hi => by simp [kn, hi]
  refine ⟨A, c, (List.range n).map f, by simpa using hv, by simpa using hnc, hcm, fun h0 => ?_, fun i => ?_⟩
  · have h0' : 0 < n := by simpa using h0
    obtain ⟨b, off, rfl, hb, _⟩ := hs h0'
    refine ⟨b, off, rfl, hb, fun i hi j hj => ?_⟩
    have hi' : i < n := by simpa using hi
    rw [knF, hts i hi']
    have := ((hf i hi').2 b off rfl).2
    rcases (show j = 0 ∨ j = 1 by omega) with rfl | rfl
    · simpa using this.1
    · simpa using this.2
  · rcases Nat.lt_or_ge i n with hi | hi
    · rw [hts i hi]; exact (hf i hi).1
    · have : kn ((List.range n).map f) i = ⟨0, 0⟩ := by simp [kn, hi]
      rw [this]
      unfold inI64
      simp

/-- one cell that reads as a line -/
theorem open_line {fuel : Nat} {v : Value} {x : DataW H × List MemPlace} (h : DataW.trod enc Try.prog w base spare held fuel 24 [v] = some x) :
    ∃ A c l, v = .slice A l.length c ∧ l.length ≤ c ∧ c ≤ maxLen ∧ Knots w w.heap.size A l ∧ KnotsIn l := by
  obtain ⟨v', m, y, hv, hr⟩ := field_one Try.underlying24 h 0 _ rfl (by kernel_rfl) (by simp)
  simp at hv
  subst hv
  exact open_knots hr

def StressIn (l : Stress) : Prop := KnotsIn l.In ∧ KnotsIn l.Out
/-- the two cells of a load -/
theorem open_stress2 {fuel : Nat} {cs : List Value} (hl : cs.length = 2) {x : DataW H × List MemPlace} (h : DataW.trod enc Try.prog w base spare held fuel 26 cs = some x) :
    ∃ AI cI AO cO l, cs[0]? = some (.slice AI l.In.length cI) ∧ cs[1]? = some (.slice AO l.Out.length cO) ∧ Knots w w.heap.size AI l.In ∧ Knots w w.heap.size AO l.Out ∧ StressIn l ∧ l.In.length ≤ cI ∧ l.Out.length ≤ cO ∧ cI ≤ maxLen ∧ cO ≤ maxLen := by
  obtain ⟨v0, m0, y0, hv0, hr0⟩ := field_one Try.underlying26 h 0 _ rfl (by kernel_rfl) (by simp [hl])
  obtain ⟨v1, m1, y1, hv1, hr1⟩ := field_one Try.underlying26 h 1 _ rfl (by kernel_rfl) (by simp [hl])
  obtain ⟨A0, c0, l0, rfl, hn0, hm0, hk0, hi0⟩ := open_line hr0
  obtain ⟨A1, c1, l1, rfl, hn1, hm1, hk1, hi1⟩ := open_line hr1
  exact ⟨A0, c0, A1, c1, ⟨l0, l1⟩, hv0, hv1, hk0, hk1, ⟨hi0, hi1⟩, hn0, hn1, hm0, hm1⟩

theorem open_stress {v : Value} {d : DataW H} {p : List MemPlace} (hv : ∃ cs, v = .agg cs ∧ cs.size = Try.prog.cellsOf 26) (h : DataW.Trod enc Try.prog w base spare held 26 v d p) :
    ∃ l, StressV w w.heap.size v l ∧ StressIn l := by
  obtain ⟨cs, rfl, hsz⟩ := hv
  have h2 : cs.size = 2 := hsz.trans (by kernel_rfl)
  obtain ⟨fuel, hf⟩ := h
  obtain ⟨l⟩ := cs
  obtain ⟨AI, cI, AO, cO, l', e0, e1, k0, k1, hin, _⟩ := open_stress2 (cs := l) (by simpa using h2) (by simpa [Value.cells] using hf)
  refine ⟨l', ⟨AI, cI, AO, cO, ?_, k0, k1⟩, hin⟩
  match l, h2 with
  | [x0, x1], _ =>
    simp at e0 e1
    rw [e0, e1]

theorem open_loads {fuel : Nat} {v : Value} {x : DataW H × List MemPlace} (h : DataW.trod enc Try.prog w base spare held fuel 33 [v] = some x) :
    ∃ A c l, v = .slice A l.length c ∧ l.length ≤ c ∧ c ≤ maxLen ∧ Loads w w.heap.size A l ∧ ∀ i, StressIn (ld l i) := by
  obtain ⟨A, n, c, hv, hnc, hcm, hs⟩ := slice_cells Try.underlying33 (k := 2) (by kernel_rfl) (by omega) h
  have hx : ∀ i, i < n → ∃ t : (Option Addr × Nat) × (Option Addr × Nat) × Stress, StressIn t.2.2 ∧ Knots w w.heap.size t.1.1 t.2.2.In ∧ Knots w w.heap.size t.2.1.1 t.2.2.Out ∧
      ∀ b off, A = some ⟨b, off, none⟩ → w.cell? ⟨b, off + i * 2, none⟩ = some (.slice t.1.1 t.2.2.In.length t.1.2) ∧ w.cell? ⟨b, off + i * 2 + 1, none⟩ = some (.slice t.2.1.1 t.2.2.Out.length t.2.1.2) := fun i hi => by
    obtain ⟨b, off, rfl, hb, m, hm⟩ := hs (by omega)
    obtain ⟨cs, y, hl, hc, hr⟩ := hm i hi
    obtain ⟨AI, cI, AO, cO, l, e0, e1, k0, k1, hin, _⟩ := open_stress2 hl hr
    refine ⟨⟨⟨AI, cI⟩, ⟨AO, cO⟩, l⟩, hin, k0, k1, fun b' off' he => ?_⟩
    simp at he
    obtain ⟨rfl, rfl⟩ := he
    exact ⟨(hc 0 (by omega)).trans e0, (hc 1 (by omega)).trans e1⟩
  obtain ⟨f, hf⟩ := choose_lt (α := (Option Addr × Nat) × (Option Addr × Nat) × Stress) hx
  have hts : ∀ i, i < n → ld ((List.range n).map fun i => (f i).2.2) i = (f i).2.2 := fun i hi => by simp [ld, hi]
  refine ⟨A, c, (List.range n).map fun i => (f i).2.2, by simpa using hv, by simpa using hnc, hcm, fun h0 => ?_, fun i => ?_⟩
  · have h0' : 0 < n := by simpa using h0
    obtain ⟨b, off, rfl, hb, _⟩ := hs h0'
    refine ⟨b, off, fun i => (f i).1.1, fun i => (f i).2.1.1, fun i => (f i).1.2, fun i => (f i).2.1.2, rfl, hb, fun i hi => ?_⟩
    have hi' : i < n := by simpa using hi
    rw [hts i hi']
    obtain ⟨_, k0, k1, hc⟩ := hf i hi'
    exact ⟨(hc b off rfl).1, (hc b off rfl).2, k0, k1⟩
  · rcases Nat.lt_or_ge i n with hi | hi
    · rw [hts i hi]; exact (hf i hi).1
    · have : ld ((List.range n).map fun i => (f i).2.2) i = ⟨[], []⟩ := by simp [ld, hi]
      rw [this]
      unfold StressIn KnotsIn inI64
      simp [kn]

def GradeIn (g : Grade) : Prop := inI64 g.Burst ∧ inI64 g.Collapse ∧ inI64 g.Pull ∧ inI64 g.Weight ∧ inI64 g.Cost
theorem open_grades {fuel : Nat} {v : Value} {x : DataW H × List MemPlace} (h : DataW.trod enc Try.prog w base spare held fuel 34 [v] = some x) :
    ∃ A c l, v = .slice A l.length c ∧ l.length ≤ c ∧ c ≤ maxLen ∧ Grades w w.heap.size A l ∧ ∀ i, GradeIn (gd l i) := by
  obtain ⟨A, n, c, hv, hnc, hcm, hs⟩ := slice_cells Try.underlying34 (k := 5) (by kernel_rfl) (by omega) h
  have hx : ∀ i, i < n → ∃ t : Grade, GradeIn t ∧ ∀ b off, A = some ⟨b, off, none⟩ → w.cell? ⟨b, off + i * 5, none⟩ = some (.int .i64 t.Burst) ∧ w.cell? ⟨b, off + i * 5 + 1, none⟩ = some (.int .i64 t.Collapse) ∧
      w.cell? ⟨b, off + i * 5 + 2, none⟩ = some (.int .i64 t.Pull) ∧ w.cell? ⟨b, off + i * 5 + 3, none⟩ = some (.int .i64 t.Weight) ∧ w.cell? ⟨b, off + i * 5 + 4, none⟩ = some (.int .i64 t.Cost) := fun i hi => by
    obtain ⟨b, off, rfl, hb, m, hm⟩ := hs (by omega)
    obtain ⟨cs, y, hl, hc, hr⟩ := hm i hi
    obtain ⟨n0, e0, i0⟩ := field_i64 Try.underlying63 hr 0 _ rfl Try.underlying2 (by kernel_rfl)
    obtain ⟨n1, e1, i1⟩ := field_i64 Try.underlying63 hr 1 _ rfl Try.underlying2 (by kernel_rfl)
    obtain ⟨n2, e2, i2⟩ := field_i64 Try.underlying63 hr 2 _ rfl Try.underlying2 (by kernel_rfl)
    obtain ⟨n3, e3, i3⟩ := field_i64 Try.underlying63 hr 3 _ rfl Try.underlying2 (by kernel_rfl)
    obtain ⟨n4, e4, i4⟩ := field_i64 Try.underlying63 hr 4 _ rfl Try.underlying2 (by kernel_rfl)
    refine ⟨⟨n0, n1, n2, n3, n4⟩, ⟨i0, i1, i2, i3, i4⟩, fun b' off' he => ?_⟩
    simp at he
    obtain ⟨rfl, rfl⟩ := he
    exact ⟨(hc 0 (by omega)).trans e0, (hc 1 (by omega)).trans e1, (hc 2 (by omega)).trans e2, (hc 3 (by omega)).trans e3, (hc 4 (by omega)).trans e4⟩
  obtain ⟨f, hf⟩ := choose_lt (α := Grade) hx
  have hts : ∀ i, i < n → gd ((List.range n).map f) i = f i := fun i hi => by simp [gd, hi]
  refine ⟨A, c, (List.range n).map f, by simpa using hv, by simpa using hnc, hcm, fun h0 => ?_, fun i => ?_⟩
  · have h0' : 0 < n := by simpa using h0
    obtain ⟨b, off, rfl, hb, _⟩ := hs h0'
    refine ⟨b, off, rfl, hb, fun i hi => ?_⟩
    have hi' : i < n := by simpa using hi
    rw [hts i hi']
    exact (hf i hi').2 b off rfl
  · rcases Nat.lt_or_ge i n with hi | hi
    · rw [hts i hi]; exact (hf i hi).1
    · have : gd ((List.range n).map f) i = ⟨0, 0, 0, 0, 0⟩ := by simp [gd, hi]
      rw [this]
      unfold GradeIn inI64
      simp

structure JobIn (j : Job) : Prop where
  ends : IntsIn j.Ends
  loads : ∀ i, StressIn (ld j.Loads i)
  grades : ∀ i, GradeIn (gd j.Grades i)
  factor : inI64 j.Factor
  over : inI64 j.Over
  ne : j.Ends.length ≤ maxLen
  nl : j.Loads.length ≤ maxLen
  ng : j.Grades.length ≤ maxLen

theorem open_job {v : Value} {d : DataW H} {p : List MemPlace} (hv : ∃ cs, v = .agg cs ∧ cs.size = Try.prog.cellsOf 36) (h : DataW.Trod enc Try.prog w base spare held 36 v d p) :
    ∃ j, JobV w w.heap.size v j ∧ JobIn j := by
  obtain ⟨cs, rfl, hsz⟩ := hv
  have h2 : cs.size = 5 := hsz.trans (by kernel_rfl)
  obtain ⟨fuel, hf⟩ := h
  obtain ⟨l⟩ := cs
  have hf' : DataW.trod enc Try.prog w base spare held fuel 36 l = some (d, p) := by simpa [Value.cells] using hf
  have h5 : l.length = 5 := by simpa using h2
  obtain ⟨v0, m0, y0, e0, r0⟩ := field_one Try.underlying36 hf' 0 _ rfl (by kernel_rfl) (by simp [h5])
  obtain ⟨v1, m1, y1, e1, r1⟩ := field_one Try.underlying36 hf' 1 _ rfl (by kernel_rfl) (by simp [h5])
  obtain ⟨v2, m2, y2, e2, r2⟩ := field_one Try.underlying36 hf' 2 _ rfl (by kernel_rfl) (by simp [h5])
  obtain ⟨n3, e3, i3⟩ := field_i64 Try.underlying36 hf' 3 _ rfl Try.underlying2 (by kernel_rfl)
  obtain ⟨n4, e4, i4⟩ := field_i64 Try.underlying36 hf' 4 _ rfl Try.underlying2 (by kernel_rfl)
  obtain ⟨AE, cE, lE, rfl, hE1, hE2, hE3, hE4⟩ := open_longs Try.underlying32 Try.underlying2 (by kernel_rfl) r0
  obtain ⟨AL, cL, lL, rfl, hL1, hL2, hL3, hL4⟩ := open_loads r1
  obtain ⟨AG, cG, lG, rfl, hG1, hG2, hG3, hG4⟩ := open_grades r2
  refine ⟨⟨lE, lL, lG, n3, n4⟩, ⟨AE, cE, AL, cL, AG, cG, ?_, hE1, hE3, hL3, hG3⟩, ⟨hE4, hL4, hG4, i3, i4, by show lE.length ≤ maxLen; omega, by show lL.length ≤ maxLen; omega, by show lG.length ≤ maxLen; omega⟩⟩
  match l, h5 with
  | [x0, x1, x2, x3, x4], _ =>
    simp at e0 e1 e2 e3 e4
    rw [e0, e1, e2, e3, e4]
end

end Go.Proofs.Ytannipfohicpmaa
