/- Pressures of valid columns: the call, and its bounds. -/
import Derived.Test.YtgcfplkfclapiaaFHeld
import Derived.Test.YtgcfplkfclapiaaFMono
import Derived.Test.YtgcfplkfclapiaaFPress3
import Derived.Test.YtgcfplkfclapiaaFAwake
namespace Mpl
theorem GoodHole.in_ {h : List Seg} (g : GoodHole h) : Go.Proofs.Ytgcfplkfclapiaa.SegsIn h := fun i => by
  unfold Go.Proofs.Ytgcfplkfclapiaa.SegIn Go.Proofs.Ytgcfplkfclapiaa.inI64
  rcases Nat.lt_or_ge i h.length with hi | hi
  · obtain ⟨a, b, c, d, e, f, k⟩ := g.fair i hi
    have := (g.seg hi).1
    omega
  · have : sg h i = ⟨0, 0, 0, 0⟩ := by simp [sg, hi]
    rw [this]
    simp
theorem heldUp_mono {h : List Seg} {l : List Slug} (g : GoodCol h l) {k : Nat} (hk : k ≤ l.length) : 0 ≤ heldUp l k ∧ heldUp l k ≤ sizeUp h h.length := by
  have h1 := g.held k l.length hk (Nat.le_refl _)
  have h2 := g.full
  omega
theorem GoodCol.in_ {h : List Seg} {l : List Slug} (g : GoodCol h l) : Go.Proofs.Ytgcfplkfclapiaa.SlugsIn l := fun i => by
  unfold Go.Proofs.Ytgcfplkfclapiaa.SlugIn Go.Proofs.Ytgcfplkfclapiaa.inI64
  rcases Nat.lt_or_ge i l.length with hi | hi
  · have h1 := g.w0 i hi
    have h2 := g.v1 i hi
    have h3 := heldUp_step l i
    have h4 := heldUp_mono g (k := i + 1) hi
    have h5 := heldUp_mono g (k := i) (by omega)
    have h6 := (g.hole.ups h.length (Nat.le_refl _)).2.2.2.2.2
    omega
  · have : slg l i = ⟨0, 0⟩ := by simp [slg, hi]
    rw [this]
    simp
theorem press_good {h : List Seg} {l : List Slug} (g : GoodCol h l) {top u : Int} (t0 : 0 ≤ top) (t1 : top ≤ 68719476736) (u0 : 0 ≤ u) (u1 : u ≤ sizeUp h h.length) : press h l top u = (pressAt h l top u, 0) := by
  unfold press
  rw [if_neg (by simp [(checkColumn_iff h l).2 g]), if_pos (by simp [within]; omega)]
theorem pressAt_bound {h : List Seg} {l : List Slug} (g : GoodCol h l) {top u : Int} (t0 : 0 ≤ top) (t1 : top ≤ 68719476736) : -2000000000000 ≤ (pressAt h l top u).Lo ∧ (pressAt h l top u).Hi ≤ 2000000000000 := by
  have hb := pressUp_bound g top u t0 t1 (l.length - 1)
  have hf := g.few
  have hw := slg_weight g (pressUp h l top u (l.length - 1)).1
  have ha := height_at g.hole u
  have := addR_bound (p := (pressUp h l top u (l.length - 1)).2) (w := -(slg l (pressUp h l top u (l.length - 1)).1).Weight) (h := At (heightOf h) u) (M := 68719476736 + 41943040000 * (((l.length - 1 : Nat) : Int) + 1)) (by omega) (by omega) ha.1 ha.2.1 ha.2.2 hb.1 hb.2.1 hb.2.2.1
  unfold pressAt
  omega
end Mpl
namespace Go.Proofs.Ytgcfplkfclapiaa
open Go.RowKit Go.Shelf Mpl

theorem own_cap {w : World} {base : Nat} {e : TypeId} {size : Nat} {A : Option Addr} {n c : Nat} {xs : List Value} (h : w.ownsRow base e size (.slice A n c) n xs) : n ≤ c ∧ c ≤ maxLen := by
  rcases h.2 with ⟨h1, h2⟩ | ⟨g, cap, cur, h1, _, _, h3, h4, _⟩
  · injection h1 with _ _ h1
    subst h1
    unfold maxLen
    omega
  · injection h1 with _ _ h1
    subst h1
    exact ⟨h3, h4⟩

/-- a hole of the call's own, as a value -/
theorem own_hole {w : World} {base : Nat} {A : Option Addr} {c : Nat} {h : List Seg} (ho : w.ownsRow base 29 4 (.slice A h.length c) h.length (h.flatMap segC)) : HoleV w w.heap.size (.agg #[.slice A h.length c]) h := by
  obtain ⟨A', c', hv, _, hs⟩ := Segs.own ho
  injection hv with h1 _ h2
  subst h1 h2
  exact ⟨A, c, rfl, hs⟩
theorem own_slugs {w : World} {base : Nat} {A : Option Addr} {c : Nat} {l : List Slug} (ho : w.ownsRow base 39 2 (.slice A l.length c) l.length (l.flatMap slugC)) : Slugs w w.heap.size A l := by
  obtain ⟨A', c', hv, _, hs⟩ := Slugs.own ho
  injection hv with h1 _ h2
  subst h1
  exact hs

theorem good_Press {h : List Seg} {l : List Slug} (g : GoodCol h l) {v : Value} {A : Option Addr} {c : Nat} (top u : Int) {W : World} (hv : HoleV W W.heap.size v h) (hs : Slugs W W.heap.size A l) (hc : l.length ≤ c ∧ c ≤ maxLen) (t0 : 0 ≤ top) (t1 : top ≤ 68719476736) (u0 : 0 ≤ u) (u1 : u ≤ sizeUp h h.length) :
    Calls Try.prog 21 #[v, .slice A l.length c, .int .i64 top, .int .i64 u] W fun e w' => e = .returned (.tuple #[.agg #[.int .i64 (pressAt h l top u).Lo, .int .i64 (pressAt h l top u).Hi], .int .i64 0]) ∧ Below W.heap.size W w' := by
  have := fluid_Press v h l A c top u W hv g.hole.in_ (by have := g.hole.few; unfold maxLen; omega) hs g.in_ hc.1 hc.2
  rw [press_good g t0 t1 u0 u1] at this
  exact this

end Go.Proofs.Ytgcfplkfclapiaa
