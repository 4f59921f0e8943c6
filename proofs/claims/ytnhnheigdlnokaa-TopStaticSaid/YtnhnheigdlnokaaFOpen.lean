/- Arguments opened: gases, muds, segments, slugs, columns, holes. -/
import Derived.Test.YtnhnheigdlnokaaOpen
import Derived.Test.YtnhnheigdlnokaaFPlaces
namespace Go.Proofs.Ytnhnheigdlnokaa
open Go.ChangeShapes Go.WideShapes Go.ChangeAt Go.RowKit Go.Deep Mpl

section
variable {H : Type} {enc : TypeId × Value → H} {w : World} {base : Nat} {spare : Nat → Bool} {held : Bool}

theorem two_cells {l : List Value} {a b : Value} (h2 : l.length = 2) (e0 : l[0]? = some a) (e1 : l[1]? = some b) : Value.agg ⟨l⟩ = .agg #[a, b] := by
  match l, h2 with
  | [x0, x1], _ =>
    simp at e0 e1
    rw [e0, e1]
theorem four_cells {l : List Value} {a b c d : Value} (h2 : l.length = 4) (e0 : l[0]? = some a) (e1 : l[1]? = some b) (e2 : l[2]? = some c) (e3 : l[3]? = some d) : Value.agg ⟨l⟩ = .agg #[a, b, c, d] := by
  match l, h2 with
  | [x0, x1, x2, x3], _ =>
    simp at e0 e1 e2 e3
    rw [e0, e1, e2, e3]

def GasNum (g : Gas) : Prop := inI64 g.K ∧ inI64 g.Power
def MudNum (g : Mud) : Prop := inI64 g.Yield ∧ inI64 g.Visc
theorem open_seg {v : Value} {d : DataW H} {p : List MemPlace} (hv : ∃ cs, v = .agg cs ∧ cs.size = Try.prog.cellsOf 24) (h : DataW.Trod enc Try.prog w base spare held 24 v d p) :
    ∃ g : Seg, v = segV g ∧ SegIn g := by
  obtain ⟨cs, rfl, hsz⟩ := hv
  have h2 : cs.size = 4 := hsz.trans (by kernel_rfl)
  obtain ⟨fuel, hf⟩ := h
  obtain ⟨l⟩ := cs
  have hf' : DataW.trod enc Try.prog w base spare held fuel 24 l = some (d, p) := by simpa [Value.cells] using hf
  obtain ⟨n0, e0, i0⟩ := field_i64 Try.underlying24 hf' 0 _ rfl Try.underlying2 (by kernel_rfl)
  obtain ⟨n1, e1, i1⟩ := field_i64 Try.underlying24 hf' 1 _ rfl Try.underlying2 (by kernel_rfl)
  obtain ⟨n2, e2, i2⟩ := field_i64 Try.underlying24 hf' 2 _ rfl Try.underlying2 (by kernel_rfl)
  obtain ⟨n3, e3, i3⟩ := field_i64 Try.underlying24 hf' 3 _ rfl Try.underlying2 (by kernel_rfl)
  exact ⟨⟨n0, n1, n2, n3⟩, four_cells (by simpa using h2) e0 e1 e2 e3, i0, i1, i2, i3⟩

theorem open_segs {fuel : Nat} {v : Value} {x : DataW H × List MemPlace} (h : DataW.trod enc Try.prog w base spare held fuel 25 [v] = some x) :
    ∃ A c l, v = .slice A l.length c ∧ l.length ≤ c ∧ c ≤ maxLen ∧ Segs w w.heap.size A l ∧ SegsIn l := by
  obtain ⟨A, n, c, hv, hnc, hcm, hs⟩ := slice_cells Try.underlying25 (k := 4) (by kernel_rfl) (by omega) h
  have hx : ∀ i, i < n → ∃ t : Seg, SegIn t ∧ ∀ b off, A = some ⟨b, off, none⟩ → b < w.heap.size ∧ w.cell? ⟨b, off + i * 4, none⟩ = some (.int .i64 t.Long) ∧ w.cell? ⟨b, off + i * 4 + 1, none⟩ = some (.int .i64 t.Rise) ∧
      w.cell? ⟨b, off + i * 4 + 2, none⟩ = some (.int .i64 t.Area) ∧ w.cell? ⟨b, off + i * 4 + 3, none⟩ = some (.int .i64 t.Gap) := fun i hi => by
    obtain ⟨b, off, rfl, hb, m, hm⟩ := hs (by omega)
    obtain ⟨cs, y, hl, hc, hr⟩ := hm i hi
    obtain ⟨n0, e0, i0⟩ := field_i64 Try.underlying24 hr 0 _ rfl Try.underlying2 (by kernel_rfl)
    obtain ⟨n1, e1, i1⟩ := field_i64 Try.underlying24 hr 1 _ rfl Try.underlying2 (by kernel_rfl)
    obtain ⟨n2, e2, i2⟩ := field_i64 Try.underlying24 hr 2 _ rfl Try.underlying2 (by kernel_rfl)
    obtain ⟨n3, e3, i3⟩ := field_i64 Try.underlying24 hr 3 _ rfl Try.underlying2 (by kernel_rfl)
    refine ⟨⟨n0, n1, n2, n3⟩, ⟨i0, i1, i2, i3⟩, fun b' off' he => ?_⟩
    simp at he
    obtain ⟨rfl, rfl⟩ := he
    exact ⟨hb, (hc 0 (by omega)).trans e0, (hc 1 (by omega)).trans e1, (hc 2 (by omega)).trans e2, (hc 3 (by omega)).trans e3⟩
  haveI : Inhabited Seg := ⟨⟨0, 0, 0, 0⟩⟩
  obtain ⟨f, hf⟩ := choose_lt (α := Seg) hx
  have hts : ∀ i, i < n → sg ((List.range n).map f) i = f i := fun i hi => by simp [sg, hi]
  refine ⟨A, c, (List.range n).map f, by simpa using hv, by simpa using hnc, hcm, fun h0 => ?_, fun i => ?_⟩
  · have h0' : 0 < n := by simpa using h0
    obtain ⟨b, off, rfl, hb, _⟩ := hs h0'
    refine ⟨b, off, rfl, hb, fun i hi => ?_⟩
    have hi' : i < n := by simpa using hi
    rw [hts i hi']
    exact ((hf i hi').2 b off rfl).2
  · rcases Nat.lt_or_ge i n with hi | hi
    · rw [hts i hi]; exact (hf i hi).1
    · have : sg ((List.range n).map f) i = ⟨0, 0, 0, 0⟩ := by simp [sg, hi]
      rw [this]
      unfold SegIn inI64
      simp

theorem open_hole {v : Value} {d : DataW H} {p : List MemPlace} (hv : ∃ cs, v = .agg cs ∧ cs.size = Try.prog.cellsOf 27) (h : DataW.Trod enc Try.prog w base spare held 27 v d p) :
    ∃ l, HoleV w w.heap.size v l ∧ SegsIn l ∧ l.length ≤ maxLen := by
  obtain ⟨cs, rfl, hsz⟩ := hv
  have h2 : cs.size = 1 := hsz.trans (by kernel_rfl)
  obtain ⟨fuel, hf⟩ := h
  obtain ⟨l⟩ := cs
  have hf' : DataW.trod enc Try.prog w base spare held fuel 27 l = some (d, p) := by simpa [Value.cells] using hf
  obtain ⟨v0, m0, y0, hv0, hr0⟩ := field_one Try.underlying27 hf' 0 _ rfl (by kernel_rfl) (by simp at h2; simp [h2])
  obtain ⟨A, c, s, rfl, hnc, hcm, hk, hi⟩ := open_segs hr0
  refine ⟨s, ⟨A, c, ?_, hk⟩, hi, by omega⟩
  match l, h2 with
  | [x0], _ =>
    simp at hv0
    rw [hv0]
end

end Go.Proofs.Ytnhnheigdlnokaa
