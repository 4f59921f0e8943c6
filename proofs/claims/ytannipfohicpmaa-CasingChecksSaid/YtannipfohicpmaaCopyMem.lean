/- The memory of casing.Copy: loads whose lines are replaced one by one. -/
import Derived.Test.YtannipfohicpmaaClone
import Derived.Test.YtannipfohicpmaaChecksMem

namespace Go.Proofs.Ytannipfohicpmaa
open Go.ChangeShapes Go.WideShapes Go.RowKit Go.Shelf Go.Deep Mpl

/-- the cells of a job's loads, as a list -/
theorem Loads.list {w : World} {B : Nat} {A : Option Addr} {l : List Stress} (h : Loads w B A l) : ∃ ls : List LoadC, ls.map LoadC.s = l ∧ Src w A l.length 2 (ls.flatMap loadC) ∧ ∀ x ∈ ls, Knots w B x.AI x.s.In ∧ Knots w B x.AO x.s.Out := by
  rcases Nat.eq_zero_or_pos l.length with h0 | h0
  · obtain rfl := List.eq_nil_of_length_eq_zero h0
    exact ⟨[], rfl, ⟨rfl, fun h => absurd h (by simp)⟩, fun x hx => absurd hx (by simp)⟩
  · obtain ⟨b, off, AI, AO, cI, cO, rfl, hlt, hc⟩ := h h0
    have hld : ∀ i (hi : i < l.length), ld l i = l[i] := fun i hi => by simp [ld, hi]
    refine ⟨l.mapIdx fun i s => ⟨AI i, cI i, AO i, cO i, s⟩, ?_, ⟨?_, fun _ => ⟨b, off, rfl, flat_src loadC 2 (by omega) (fun _ => rfl) _ w b off ?_⟩⟩, ?_⟩
    · apply List.ext_getElem
      · simp
      · intro i h1 h2
        simp
    · rw [flatC_len loadC 2 (fun _ => rfl)]
      simp
    · intro i hi j u hu
      have hi' : i < l.length := by simpa using hi
      obtain ⟨k0, k1, _, _⟩ := hc i hi'
      rw [hld i hi'] at k0 k1
      have hj : j < 2 := by have := (List.getElem?_eq_some_iff.1 hu).1; simpa [loadC] using this
      rcases (show j = 0 ∨ j = 1 by omega) with rfl | rfl <;> simp [loadC] at hu <;> subst hu
      · exact k0
      · exact k1
    · intro x hx
      obtain ⟨i, hi, rfl⟩ := List.mem_mapIdx.1 hx
      obtain ⟨_, _, k2, k3⟩ := hc i hi
      rw [hld i hi] at k2 k3
      exact ⟨k2, k3⟩

theorem loads_set : ∀ (ms : List LoadC) (k : Nat) (x : LoadC), ((ms.flatMap loadC).set (k * 2) (.slice x.AI x.s.In.length x.cI)).set (k * 2 + 1) (.slice x.AO x.s.Out.length x.cO) = (ms.set k x).flatMap loadC
  | [], k, x => by simp
  | a :: ms, 0, x => by simp [loadC]
  | a :: ms, k + 1, x => by
    have ih := loads_set ms k x
    rw [show (k + 1) * 2 = k * 2 + 1 + 1 by omega]
    simpa [loadC, List.set_cons_succ] using ih

theorem loadC_oneC (l : List LoadC) : ∀ u ∈ l.flatMap loadC, u.oneCell' = true := by
  intro u hu
  obtain ⟨t, _, hu⟩ := List.mem_flatMap.1 hu
  simp [loadC] at hu
  rcases hu with rfl | rfl <;> rfl

/-- a row of loads under way: the first k are the call's own, the others are as the job had them -/
structure CpRow (w W : World) (B : Nat) (v : Value) (n k : Nat) (l : List Stress) (ms : List LoadC) : Prop where
  row : W.ownsRow B 26 2 v n (ms.flatMap loadC)
  said : ms.map LoadC.s = l
  done : ∀ i x, ms[i]? = some x → i < k → LoadOwn W B x
  rest : ∀ i x, ms[i]? = some x → k ≤ i → Knots w w.heap.size x.AI x.s.In ∧ Knots w w.heap.size x.AO x.s.Out
section
variable {w W W' : World} {B n k : Nat} {v : Value} {l : List Stress} {ms : List LoadC}
theorem CpRow.under (h : CpRow w W B v n k l ms) (hb : Below W.heap.size W W') : CpRow w W' B v n k l ms :=
  ⟨own_under h.row hb, h.said, fun i x hx hi => (h.done i x hx hi).under hb, h.rest⟩
theorem CpRow.len (h : CpRow w W B v n k l ms) : ms.length = n ∧ l.length = n := by
  have h1 := h.row.1
  rw [flatC_len loadC 2 (fun _ => rfl)] at h1
  have h2 := congrArg List.length h.said
  simp at h2
  omega
theorem LoadOwn.put {g t i : Nat} {cs : Array Value} {x : LoadC} (h : LoadOwn W B x) (hx : Box W g t cs) (hne : 71 ≠ t) (u : Value) : LoadOwn (W.setCell ⟨g, i, none⟩ u) B x := ⟨own_put h.1 hx hne u, own_put h.2 hx hne u⟩
/-- the row's block, and its k-th entry -/
theorem CpRow.at_ {A : Option Addr} {c : Nat} (h : CpRow w W B (.slice A n c) n k l ms) (hk : k < n) : ∃ g cs x, A = some ⟨g, 0, none⟩ ∧ B ≤ g ∧ Box W g 26 cs ∧ ms[k]? = some x ∧ x.s = ld l k ∧
    W.cell? ⟨g, k * 2, none⟩ = some (.slice x.AI x.s.In.length x.cI) ∧ W.cell? ⟨g, k * 2 + 1, none⟩ = some (.slice x.AO x.s.Out.length x.cO) ∧ W.frozen? ⟨g, k * 2, none⟩ = false ∧ W.frozen? ⟨g, k * 2 + 1, none⟩ = false := by
  obtain ⟨hm, hl⟩ := h.len
  have hkm : k < ms.length := by omega
  rcases h.row.2 with ⟨hv, h0⟩ | ⟨g, cap, cur, hv, hg, hh, hr⟩
  · have := h.row.1
    rw [h0] at this
    simp at this
    omega
  · injection hv with e1 _ e2
    subst e1 e2
    have hc0 := h.row.cellAt (k * 2) (by omega)
    have hc1 := h.row.cellAt (k * 2 + 1) (by omega)
    refine ⟨g, cur, ms[k], rfl, hg, hh, List.getElem?_eq_getElem hkm, ?_, ?_, ?_, h.row.frozenAt (k * 2), h.row.frozenAt (k * 2 + 1)⟩
    · have : ld l k = l[k] := by simp [ld, show k < l.length by omega]
      rw [this]
      simp [← h.said]
    · rw [hc0, show k * 2 = k * 2 + 0 by omega, flat_get loadC 2 (fun _ => rfl) ms k 0 hkm (by omega)]
      rfl
    · rw [hc1, flat_get loadC 2 (fun _ => rfl) ms k 1 hkm (by omega)]
      rfl
/-- the k-th entry replaced by lines of the call's own -/
theorem CpRow.put {g c : Nat} (h : CpRow w W B (.slice (some ⟨g, 0, none⟩) n c) n k l ms) (hk : k < n) {s : Stress} (hs : ld l k = s) {cs : Array Value} (hg : Box W g 26 cs) {AI AO : Option Addr} {cI cO : Nat} (ho : LoadOwn W B ⟨AI, cI, AO, cO, s⟩) :
    CpRow w ((W.setCell ⟨g, k * 2, none⟩ (.slice AI s.In.length cI)).setCell ⟨g, k * 2 + 1, none⟩ (.slice AO s.Out.length cO)) B (.slice (some ⟨g, 0, none⟩) n c) n (k + 1) l (ms.set k ⟨AI, cI, AO, cO, s⟩) := by
  subst hs
  obtain ⟨hm, hl⟩ := h.len
  have hkm : k < ms.length := by omega
  have hg' := hg.set_ (k * 2) (.slice AI (ld l k).In.length cI)
  refine ⟨?_, ?_, fun i x hx hi => ?_, fun i x hx hi => ?_⟩
  · have := ((h.row.stored (k * 2) (.slice AI (ld l k).In.length cI)).1.stored (k * 2 + 1) (.slice AO (ld l k).Out.length cO)).1
    rwa [loads_set ms k ⟨AI, cI, AO, cO, ld l k⟩] at this
  · rw [List.map_set, h.said]
    have : ld l k = l[k] := by simp [ld, show k < l.length by omega]
    simp [this]
  · have hne : 71 ≠ 26 := by decide
    rw [List.getElem?_set] at hx
    split at hx
    · have e : x = ⟨AI, cI, AO, cO, ld l k⟩ := by simp at hx; exact hx.symm
      subst e
      exact (ho.put hg hne _).put hg' hne _
    · exact ((h.done i x hx (by omega)).put hg hne _).put hg' hne _
  · rw [List.getElem?_set] at hx
    rw [if_neg (by omega)] at hx
    exact h.rest i x hx (by omega)
theorem CopySt.put {AL : Option Addr} {nL cL : Nat} {vE vG : Value} {nE nG : Nat} {es gs : List Value} {F O : Int} (h : CopySt w W AL nL cL vE vG nE nG es gs F O) {g i : Nat} {cs : Array Value} (hx : Box W g 26 cs) (hg : w.heap.size + 1 + 1 ≤ g) (u : Value) : CopySt w (W.setCell ⟨g, i, none⟩ u) AL nL cL vE vG nE nG es gs F O :=
  ⟨h.job.far (by simp; omega) u, h.res.far (by simp; omega) u, own_put h.ends hx (by decide) u, own_put h.grades hx (by decide) u, h.low.setCell (p := ⟨g, i, none⟩) (by simp; omega) u, by simpa using h.size⟩
end

end Go.Proofs.Ytannipfohicpmaa
