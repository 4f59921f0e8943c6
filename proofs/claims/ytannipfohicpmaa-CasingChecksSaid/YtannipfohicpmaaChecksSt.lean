/- What the law CasingChecks holds in memory while it writes into its copy. -/
import Derived.Test.YtannipfohicpmaaChecksMem
namespace Go.Proofs.Ytannipfohicpmaa
open Go.ChangeShapes Go.WideShapes Go.RowKit Go.Shelf Go.Deep Mpl

theorem apartC {W : World} {g g' t t' : Nat} {cs cs' : Array Value} (h : Box W g t cs) (h' : Box W g' t' cs') (hne : t ≠ t') : g ≠ g' := fun e => by
  subst e
  unfold Box at h h'
  rw [h] at h'
  injection h' with h'
  injection h' with _ h1
  exact hne h1
theorem JobOwn.far {W : World} {B : Nat} {v : Value} {j : Job} (h : JobOwn W B v j) {p : Addr} (hp : p.block < B) (u : Value) : JobOwn (W.setCell p u) B v j := by
  obtain ⟨AE, cE, AL, cL, AG, cG, ls, rfl, h1, h2, h3, h4, h5⟩ := h
  exact ⟨AE, cE, AL, cL, AG, cG, ls, rfl, h1, own_far h2 hp u, own_far h3 hp u, fun x hx => ⟨own_far (h4 x hx).1 hp u, own_far (h4 x hx).2 hp u⟩, own_far h5 hp u⟩
/-- a row of numbers in blocks from B to L -/
def Low (W : World) (B L : Nat) (e size : Nat) (A : Option Addr) (n c : Nat) : Prop := OwnN W B e size (.slice A n c) n ∧ ∀ a, A = some a → a.block < L
section
variable {W W' : World} {B L e size n c : Nat} {A : Option Addr}
theorem Low.under (h : Low W B L e size A n c) (hb : Below W.heap.size W W') : Low W' B L e size A n c := ⟨h.1.under hb, h.2⟩
theorem Low.put (h : Low W B L e size A n c) (g j : Nat) (a : Int) : Low (W.setCell ⟨g, j, none⟩ (.int .i64 a)) B L e size A n c := ⟨h.1.put g j a, h.2⟩
theorem Low.le (h : Low W B L e size A n c) {L' : Nat} (hL : L ≤ L') : Low W B L' e size A n c := ⟨h.1, fun a ha => Nat.lt_of_lt_of_le (h.2 a ha) hL⟩
theorem own_lim {xs : List Value} (h : W.ownsRow B e size (.slice A n c) n xs) : ∀ a, A = some a → a.block < W.heap.size := by
  rintro a rfl
  rcases h.2 with ⟨hv, _⟩ | ⟨g', cap, cur, hv, hg, hh, hr⟩
  · cases hv
  · injection hv with e1 _ _
    injection e1 with e1
    subst e1
    exact (Array.getElem?_eq_some_iff.1 hh).1
end
/-- the two jobs of the law that are kept, and the copy that is written -/
structure ChkSt (w : World) (B L gc gw : Nat) (cj cc cw : Array Value) (j : Job) (aE aL : Option Addr) (nE eE nL eL : Nat) (ls : List LoadC) (W : World) : Prop where
  bj : Box W w.heap.size 36 cj
  bc : Box W gc 36 cc
  bw : Box W gw 36 cw
  low : Below w.heap.size w W
  was : JobOwn W L (.agg cw) j
  ends : Low W B L 2 1 aE nE eE
  loads : W.ownsRow B 26 2 (.slice aL nL eL) nL (ls.flatMap loadC)
  ins : ∀ x ∈ ls, Low W B L 71 2 x.AI x.s.In.length x.cI
section
variable {w W W' : World} {B L gc gw : Nat} {cj cc cw : Array Value} {j : Job} {aE aL : Option Addr} {nE eE nL eL : Nat} {ls : List LoadC}
theorem ChkSt.put (h : ChkSt w B L gc gw cj cc cw j aE aL nE eE nL eL ls W) {g e i : Nat} {cs : Array Value} (hx : Box W g e cs) (h1 : 36 ≠ e) (h2 : 26 ≠ e) (hg : w.heap.size ≤ g) (hl : g < L) (a : Int) : ChkSt w B L gc gw cj cc cw j aE aL nE eE nL eL ls (W.setCell ⟨g, i, none⟩ (.int .i64 a)) :=
  ⟨h.bj.far (apartC h.bj hx h1) _, h.bc.far (apartC h.bc hx h1) _, h.bw.far (apartC h.bw hx h1) _, h.low.setCell (p := ⟨g, i, none⟩) hg _, h.was.far (p := ⟨g, i, none⟩) hl _, h.ends.put g i a, own_put h.loads hx h2 _, fun x hx' => (h.ins x hx').put g i a⟩
theorem ChkSt.put1 (h : ChkSt w B L gc gw cj cc cw j aE aL nE eE nL eL ls W) {g i : Nat} {cs : Array Value} (hx : Box W g 2 cs) (hg : w.heap.size ≤ g) (hl : g < L) (a : Int) : ChkSt w B L gc gw cj cc cw j aE aL nE eE nL eL ls (W.setCell ⟨g, i, none⟩ (.int .i64 a)) := h.put hx (by decide) (by decide) hg hl a
theorem ChkSt.put2 (h : ChkSt w B L gc gw cj cc cw j aE aL nE eE nL eL ls W) {g i : Nat} {cs : Array Value} (hx : Box W g 71 cs) (hg : w.heap.size ≤ g) (hl : g < L) (a : Int) : ChkSt w B L gc gw cj cc cw j aE aL nE eE nL eL ls (W.setCell ⟨g, i, none⟩ (.int .i64 a)) := h.put hx (by decide) (by decide) hg hl a
/-- the k-th end of the copy -/
theorem ChkSt.end_ (h : ChkSt w B L gc gw cj cc cw j aE aL nE eE nL eL ls W) {k : Nat} (hk : k < nE) : ∃ g x cs, aE = some ⟨g, 0, none⟩ ∧ B ≤ g ∧ g < L ∧ g < W.heap.size ∧ W.cell? ⟨g, k, none⟩ = some (.int .i64 x) ∧ W.frozen? ⟨g, k, none⟩ = false ∧ Box W g 2 cs := by
  obtain ⟨g, x, cs, h1, h2, h3, h4, h5, h6⟩ := h.ends.1.cell (i := k) (by omega)
  exact ⟨g, x, cs, h1, h2, h.ends.2 _ h1, h3, h4, h5, h6⟩
/-- the k-th load of the copy -/
theorem ChkSt.load (h : ChkSt w B L gc gw cj cc cw j aE aL nE eE nL eL ls W) {k : Nat} (hk : k < nL) : ∃ g, ∃ x ∈ ls, aL = some ⟨g, 0, none⟩ ∧ ls[k]? = some x ∧ g < W.heap.size ∧ W.cell? ⟨g, k * 2, none⟩ = some (.slice x.AI x.s.In.length x.cI) := by
  have hm : ls.length = nL := by
    have h1 := h.loads.1
    rw [flatC_len loadC 2 (fun _ => rfl)] at h1
    omega
  have hkm : k < ls.length := by omega
  rcases h.loads.2 with ⟨hv, h0⟩ | ⟨g, cap, cur, hv, hg, hh, hr⟩
  · have := h.loads.1
    rw [h0] at this
    simp at this
    omega
  · injection hv with e1 _ e2
    have hl := h.loads
    rw [e1, e2] at hl
    refine ⟨g, ls[k], List.getElem_mem hkm, e1, List.getElem?_eq_getElem hkm, (Array.getElem?_eq_some_iff.1 hh).1, ?_⟩
    rw [hl.cellAt (k * 2) (by omega), show k * 2 = k * 2 + 0 by omega, flat_get loadC 2 (fun _ => rfl) ls k 0 hkm (by omega)]
    rfl
/-- the k-th load's cell, where it is known -/
theorem ChkSt.load_at {g : Nat} (h : ChkSt w B L gc gw cj cc cw j aE (some ⟨g, 0, none⟩) nE eE nL eL ls W) {k : Nat} {x : LoadC} (hk : k < nL) (hx : ls[k]? = some x) : g < W.heap.size ∧ W.cell? ⟨g, k * 2, none⟩ = some (.slice x.AI x.s.In.length x.cI) := by
  obtain ⟨g', x', _, e1, e2, h1, h2⟩ := h.load hk
  injection e1 with e1
  injection e1 with e1
  subst e1
  rw [hx] at e2
  injection e2 with e2
  subst e2
  exact ⟨h1, h2⟩
/-- the value of a knot of a load's inside line -/
theorem ChkSt.knot (h : ChkSt w B L gc gw cj cc cw j aE aL nE eE nL eL ls W) {k m : Nat} {x : LoadC} (hx : ls[k]? = some x) (hm : m < x.s.In.length) : ∃ g v cs, x.AI = some ⟨g, 0, none⟩ ∧ B ≤ g ∧ g < L ∧ g < W.heap.size ∧ W.cell? ⟨g, m * 2 + 1, none⟩ = some (.int .i64 v) ∧ W.frozen? ⟨g, m * 2 + 1, none⟩ = false ∧ Box W g 71 cs := by
  have hi := h.ins x (List.mem_of_getElem? hx)
  obtain ⟨g, v, cs, h1, h2, h3, h4, h5, h6⟩ := hi.1.cell (i := m * 2 + 1) (by omega)
  exact ⟨g, v, cs, h1, h2, hi.2 _ h1, h3, h4, h5, h6⟩
end
/-- a job of the call's own, before the other copy is made: its rows lie below -/
theorem JobOwn.low {W : World} {B nE nL nG eE eL eG : Nat} {aE aL aG : Option Addr} {F O : Int} {j : Job} (h : JobOwn W B (.agg #[.slice aE nE eE, .slice aL nL eL, .slice aG nG eG, .int .i64 F, .int .i64 O]) j) :
    ∃ ls : List LoadC, Low W B W.heap.size 2 1 aE nE eE ∧ W.ownsRow B 26 2 (.slice aL nL eL) nL (ls.flatMap loadC) ∧ (∀ x ∈ ls, Low W B W.heap.size 71 2 x.AI x.s.In.length x.cI) ∧ ∀ k x, ls[k]? = some x → k < j.Loads.length ∧ ld j.Loads k = x.s := by
  obtain ⟨AE, cE, AL, cL, AG, cG, ls, e1, h1, h2, h3, h4, h5⟩ := h
  simp only [Value.agg.injEq, Array.mk.injEq, List.cons.injEq, Value.slice.injEq, Value.int.injEq, and_true, true_and] at e1
  obtain ⟨⟨rfl, rfl, rfl⟩, ⟨rfl, rfl, rfl⟩, ⟨rfl, rfl, rfl⟩, rfl, rfl⟩ := e1
  refine ⟨ls, ⟨OwnN.ints h2, own_lim h2⟩, h3, fun x hx => ⟨OwnN.knots (h4 x hx).1, own_lim (h4 x hx).1⟩, fun k x hx => ?_⟩
  have hm : j.Loads[k]? = some x.s := by rw [← h1, List.getElem?_map, hx]; rfl
  exact ⟨(List.getElem?_eq_some_iff.1 hm).1, by simp [ld, hm]⟩

end Go.Proofs.Ytannipfohicpmaa
