/- Two jobs made of numbers, each in a block of its own: the memory of the law CasingMore, and a region that makes both in any order. -/
import Derived.Test.YtannipfohicpmaaKitJobO
import Derived.Test.YtannipfohicpmaaInv2P
import Derived.Deep.DeepCutAuto
namespace Go.Proofs.Ytannipfohicpmaa
open Go.RowKit Go.Shelf Go.Deep Mpl

section
variable {W W' : World} {B B' : Nat} {v : Value} {j : Job}
theorem JobOwn.under (h : JobOwn W B v j) (hb : Below W.heap.size W W') : JobOwn W' B v j := by
  obtain ⟨AE, cE, AL, cL, AG, cG, ls, rfl, h1, h2, h3, h4, h5⟩ := h
  exact ⟨AE, cE, AL, cL, AG, cG, ls, rfl, h1, own_under h2 hb, own_under h3 hb, fun x hx => (h4 x hx).under hb, own_under h5 hb⟩
theorem JobOwn.le (h : JobOwn W B v j) (hb : B' ≤ B) : JobOwn W B' v j := by
  obtain ⟨AE, cE, AL, cL, AG, cG, ls, rfl, h1, h2, h3, h4, h5⟩ := h
  exact ⟨AE, cE, AL, cL, AG, cG, ls, rfl, h1, own_le h2 hb, own_le h3 hb, fun x hx => (h4 x hx).le hb, own_le h5 hb⟩
/-- a row stays where a block of another type is written -/
theorem own_put {base : Nat} {e : TypeId} {size n : Nat} {xs : List Value} {g t i : Nat} {cs : Array Value} (h : W.ownsRow base e size v n xs) (hx : Box W g t cs) (hne : e ≠ t) (u : Value) : (W.setCell ⟨g, i, none⟩ u).ownsRow base e size v n xs := by
  obtain ⟨h1, h2⟩ := h
  refine ⟨h1, ?_⟩
  rcases h2 with h2 | ⟨g', cap, cur, hv, hg, hh, r⟩
  · exact .inl h2
  · refine .inr ⟨g', cap, cur, hv, hg, (Below.heap_setCell W ⟨g, i, none⟩ u g' (fun e' => ?_)).trans hh, r⟩
    simp at e'
    subst e'
    unfold Box at hx
    rw [hh] at hx
    injection hx with hx
    injection hx with _ ht
    exact hne ht
theorem JobOwn.put {g i : Nat} {cs : Array Value} (h : JobOwn W B v j) (hx : Box W g 36 cs) (u : Value) : JobOwn (W.setCell ⟨g, i, none⟩ u) B v j := by
  obtain ⟨AE, cE, AL, cL, AG, cG, ls, rfl, h1, h2, h3, h4, h5⟩ := h
  exact ⟨AE, cE, AL, cL, AG, cG, ls, rfl, h1, own_put h2 hx (by decide) u, own_put h3 hx (by decide) u, fun x hx' => ⟨own_put (h4 x hx').1 hx (by decide) u, own_put (h4 x hx').2 hx (by decide) u⟩, own_put h5 hx (by decide) u⟩
theorem JobOwn.form (h : JobOwn W B v j) : ∃ AE cE AL cL AG cG, v = .agg #[.slice AE j.Ends.length cE, .slice AL j.Loads.length cL, .slice AG j.Grades.length cG, .int .i64 j.Factor, .int .i64 j.Over] := by
  obtain ⟨AE, cE, AL, cL, AG, cG, ls, rfl, _⟩ := h
  exact ⟨AE, cE, AL, cL, AG, cG, rfl⟩
end

/-- a job in block g, its rows in memory of the call's own -/
structure JobIs (W : World) (B g : Nat) (c : Array Value) (j : Job) : Prop where
  box : Box W g 36 c
  own : JobOwn W B (.agg c) j
theorem JobIs.under {W W' : World} {B g : Nat} {c : Array Value} {j : Job} (h : JobIs W B g c j) (hb : Below W.heap.size W W') : JobIs W' B g c j := ⟨h.box.under hb, h.own.under hb⟩

/-- five cells of a block filled -/
def fill5 (W : World) (g : Nat) (a b c d e : Value) : World := ((((W.setCell ⟨g, 0, none⟩ a).setCell ⟨g, 1, none⟩ b).setCell ⟨g, 2, none⟩ c).setCell ⟨g, 3, none⟩ d).setCell ⟨g, 4, none⟩ e
section
variable {W W' : World} {g : Nat} {a b c d e : Value}
theorem fill5_box {x0 x1 x2 x3 x4 : Value} (h : Box W g 36 #[x0, x1, x2, x3, x4]) : Box (fill5 W g a b c d e) g 36 #[a, b, c, d, e] := by
  unfold fill5
  simpa using ((((h.set_ 0 a).set_ 1 b).set_ 2 c).set_ 3 d).set_ 4 e
theorem fill5_far {g' t : Nat} {cs : Array Value} (h : Box W g' t cs) (hne : g' ≠ g) : Box (fill5 W g a b c d e) g' t cs := ((((h.far hne _).far hne _).far hne _).far hne _).far hne _
theorem fill5_own {B : Nat} {v : Value} {j : Job} {x0 x1 x2 x3 x4 : Value} (h : JobOwn W B v j) (hx : Box W g 36 #[x0, x1, x2, x3, x4]) : JobOwn (fill5 W g a b c d e) B v j :=
  ((((h.put hx a).put (hx.set_ 0 a) b).put ((hx.set_ 0 a).set_ 1 b) c).put (((hx.set_ 0 a).set_ 1 b).set_ 2 c) d).put ((((hx.set_ 0 a).set_ 1 b).set_ 2 c).set_ 3 d) e
theorem fill5_below {B : Nat} {w : World} (h : Below B w W) (hg : B ≤ g) : Below B w (fill5 W g a b c d e) :=
  ((((h.setCell (p := ⟨g, 0, none⟩) hg a).setCell (p := ⟨g, 1, none⟩) hg b).setCell (p := ⟨g, 2, none⟩) hg c).setCell (p := ⟨g, 3, none⟩) hg d).setCell (p := ⟨g, 4, none⟩) hg e
end

/-- two jobs made and laid down, in any order -/
structure TwoJ (w0 : World) (d1 d3 a4 a5 s6 s7 : Bool) (u1 u3 p4 p5 : Value) (W : World) : Prop where
  low : Below w0.heap.size w0 W
  r1 : d1 = true → ∃ j, JobOwn W w0.heap.size u1 j ∧ Made j
  r3 : d3 = true → ∃ j, JobOwn W w0.heap.size u3 j ∧ Made j
  l4 : a4 = true → ∃ g x0 x1 x2 x3 x4, p4 = .pointer (some ⟨g, 0, none⟩) ∧ w0.heap.size ≤ g ∧ Box W g 36 #[x0, x1, x2, x3, x4] ∧ (s6 = true → u1 = .agg #[x0, x1, x2, x3, x4])
  l5 : a5 = true → ∃ g x0 x1 x2 x3 x4, p5 = .pointer (some ⟨g, 0, none⟩) ∧ w0.heap.size ≤ g ∧ Box W g 36 #[x0, x1, x2, x3, x4] ∧ (s7 = true → u3 = .agg #[x0, x1, x2, x3, x4])
  ne : a4 = true → a5 = true → p4 ≠ p5
section
variable {w0 W W' : World} {d1 d3 a4 a5 s6 s7 : Bool} {u1 u3 p4 p5 : Value}
theorem TwoJ.none : TwoJ w0 false false false false false false u1 u3 p4 p5 w0 := ⟨Below.refl _ _, fun h => (by cases h), fun h => (by cases h), fun h => (by cases h), fun h => (by cases h), fun h => (by cases h)⟩
theorem TwoJ.under (h : TwoJ w0 d1 d3 a4 a5 s6 s7 u1 u3 p4 p5 W) (hb : Below W.heap.size W W') : TwoJ w0 d1 d3 a4 a5 s6 s7 u1 u3 p4 p5 W' :=
  ⟨h.low.trans (hb.mono h.low.size), fun e => by obtain ⟨j, h1, h2⟩ := h.r1 e; exact ⟨j, h1.under hb, h2⟩, fun e => by obtain ⟨j, h1, h2⟩ := h.r3 e; exact ⟨j, h1.under hb, h2⟩,
    fun e => by obtain ⟨g, x0, x1, x2, x3, x4, h1, h2, h3, h4⟩ := h.l4 e; exact ⟨g, x0, x1, x2, x3, x4, h1, h2, h3.under hb, h4⟩, fun e => by obtain ⟨g, x0, x1, x2, x3, x4, h1, h2, h3, h4⟩ := h.l5 e; exact ⟨g, x0, x1, x2, x3, x4, h1, h2, h3.under hb, h4⟩, h.ne⟩
theorem TwoJ.call1 (h : TwoJ w0 false d3 a4 a5 false s7 u1 u3 p4 p5 W) {v : Value} {j : Job} (ho : JobOwn W w0.heap.size v j) (hm : Made j) : TwoJ w0 true d3 a4 a5 false s7 v u3 p4 p5 W :=
  ⟨h.low, fun _ => ⟨j, ho, hm⟩, h.r3, fun e => by obtain ⟨g, x0, x1, x2, x3, x4, h1, h2, h3, _⟩ := h.l4 e; exact ⟨g, x0, x1, x2, x3, x4, h1, h2, h3, fun e => by cases e⟩, h.l5, h.ne⟩
theorem TwoJ.call3 (h : TwoJ w0 d1 false a4 a5 s6 false u1 u3 p4 p5 W) {v : Value} {j : Job} (ho : JobOwn W w0.heap.size v j) (hm : Made j) : TwoJ w0 d1 true a4 a5 s6 false u1 v p4 p5 W :=
  ⟨h.low, h.r1, fun _ => ⟨j, ho, hm⟩, h.l4, fun e => by obtain ⟨g, x0, x1, x2, x3, x4, h1, h2, h3, _⟩ := h.l5 e; exact ⟨g, x0, x1, x2, x3, x4, h1, h2, h3, fun e => by cases e⟩, h.ne⟩
theorem TwoJ.alloc4 (h : TwoJ w0 d1 d3 false a5 false s7 u1 u3 p4 p5 W) (x0 x1 x2 x3 x4 : Value) : TwoJ w0 d1 d3 true a5 false s7 u1 u3 (.pointer (some ⟨W.heap.size, 0, Option.none⟩)) p5 (W.alloc (.cells #[x0, x1, x2, x3, x4] 36)) := by
  have h' := h.under ((Below.refl _ W).alloc (Nat.le_refl _) (.cells #[x0, x1, x2, x3, x4] 36))
  refine ⟨h'.low, h'.r1, h'.r3, fun _ => ⟨_, x0, x1, x2, x3, x4, rfl, h.low.size, Box.new _ _ _ rfl, fun e => by cases e⟩, h'.l5, fun _ e => ?_⟩
  obtain ⟨g, y0, y1, y2, y3, y4, rfl, _, h3, _⟩ := h.l5 e
  have := h3.lt
  simp
  try omega
theorem TwoJ.alloc5 (h : TwoJ w0 d1 d3 a4 false s6 false u1 u3 p4 p5 W) (x0 x1 x2 x3 x4 : Value) : TwoJ w0 d1 d3 a4 true s6 false u1 u3 p4 (.pointer (some ⟨W.heap.size, 0, Option.none⟩)) (W.alloc (.cells #[x0, x1, x2, x3, x4] 36)) := by
  have h' := h.under ((Below.refl _ W).alloc (Nat.le_refl _) (.cells #[x0, x1, x2, x3, x4] 36))
  refine ⟨h'.low, h'.r1, h'.r3, h'.l4, fun _ => ⟨_, x0, x1, x2, x3, x4, rfl, h.low.size, Box.new _ _ _ rfl, fun e => by cases e⟩, fun e _ => ?_⟩
  obtain ⟨g, y0, y1, y2, y3, y4, rfl, _, h3, _⟩ := h.l4 e
  have := h3.lt
  simp
  try omega
theorem TwoJ.put4 {g : Nat} {a b c d e x0 x1 x2 x3 x4 : Value} (h : TwoJ w0 d1 d3 true a5 s6 s7 (.agg #[a, b, c, d, e]) u3 (.pointer (some ⟨g, 0, Option.none⟩)) p5 W) (hx : Box W g 36 #[x0, x1, x2, x3, x4]) (hg : w0.heap.size ≤ g) : TwoJ w0 d1 d3 true a5 true s7 (.agg #[a, b, c, d, e]) u3 (.pointer (some ⟨g, 0, Option.none⟩)) p5 (fill5 W g a b c d e) := by
  refine ⟨fill5_below h.low hg, fun e => ?_, fun e => ?_, fun _ => ⟨g, a, b, c, d, e, rfl, hg, fill5_box hx, fun _ => rfl⟩, fun e => ?_, h.ne⟩
  · obtain ⟨j, h1, h2⟩ := h.r1 e; exact ⟨j, fill5_own h1 hx, h2⟩
  · obtain ⟨j, h1, h2⟩ := h.r3 e; exact ⟨j, fill5_own h1 hx, h2⟩
  · obtain ⟨g', y0, y1, y2, y3, y4, k1, k2, k3, k4⟩ := h.l5 e
    refine ⟨g', y0, y1, y2, y3, y4, k1, k2, fill5_far k3 (fun e2 => ?_), k4⟩
    subst e2
    exact h.ne rfl e k1.symm
theorem TwoJ.put5 {g : Nat} {a b c d e x0 x1 x2 x3 x4 : Value} (h : TwoJ w0 d1 d3 a4 true s6 s7 u1 (.agg #[a, b, c, d, e]) p4 (.pointer (some ⟨g, 0, Option.none⟩)) W) (hx : Box W g 36 #[x0, x1, x2, x3, x4]) (hg : w0.heap.size ≤ g) : TwoJ w0 d1 d3 a4 true s6 true u1 (.agg #[a, b, c, d, e]) p4 (.pointer (some ⟨g, 0, Option.none⟩)) (fill5 W g a b c d e) := by
  refine ⟨fill5_below h.low hg, fun e => ?_, fun e => ?_, fun e => ?_, fun _ => ⟨g, a, b, c, d, e, rfl, hg, fill5_box hx, fun _ => rfl⟩, h.ne⟩
  · obtain ⟨j, h1, h2⟩ := h.r1 e; exact ⟨j, fill5_own h1 hx, h2⟩
  · obtain ⟨j, h1, h2⟩ := h.r3 e; exact ⟨j, fill5_own h1 hx, h2⟩
  · obtain ⟨g', y0, y1, y2, y3, y4, k1, k2, k3, k4⟩ := h.l4 e
    refine ⟨g', y0, y1, y2, y3, y4, k1, k2, fill5_far k3 (fun e2 => ?_), k4⟩
    subst e2
    exact h.ne e rfl k1
end

theorem load_sheet {w : World} {g : Nat} {a b c d e : Value} (h : Box w g 48 #[a, b, c, d, e]) : w.cell? ⟨g, 0, none⟩ = some a ∧ w.cell? ⟨g, 1, none⟩ = some b ∧ w.cell? ⟨g, 2, none⟩ = some c ∧ w.cell? ⟨g, 3, none⟩ = some d ∧ w.cell? ⟨g, 4, none⟩ = some e := ⟨h.cell 0, h.cell 1, h.cell 2, h.cell 3, h.cell 4⟩
theorem job_cells {w : World} {g : Nat} {a b c d e : Value} (h : Box w g 36 #[a, b, c, d, e]) : w.cell? ⟨g, 0, none⟩ = some a ∧ w.cell? ⟨g, 1, none⟩ = some b ∧ w.cell? ⟨g, 2, none⟩ = some c ∧ w.cell? ⟨g, 3, none⟩ = some d ∧ w.cell? ⟨g, 4, none⟩ = some e := ⟨h.cell 0, h.cell 1, h.cell 2, h.cell 3, h.cell 4⟩
theorem job_free {w : World} {g : Nat} {a b c d e : Value} (h : Box w g 36 #[a, b, c, d, e]) : w.frozen? ⟨g, 0, none⟩ = false ∧ w.frozen? ⟨g, 1, none⟩ = false ∧ w.frozen? ⟨g, 2, none⟩ = false ∧ w.frozen? ⟨g, 3, none⟩ = false ∧ w.frozen? ⟨g, 4, none⟩ = false := ⟨h.frozen 0, h.frozen 1, h.frozen 2, h.frozen 3, h.frozen 4⟩

end Go.Proofs.Ytannipfohicpmaa
