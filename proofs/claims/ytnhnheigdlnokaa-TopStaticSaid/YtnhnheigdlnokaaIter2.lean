/- A range over an iterator that keeps blocks of its own over its rounds: the law of XIter, with one thing more: what the iterator has made since the last round stays. -/
import Derived.Test.YtnhnheigdlnokaaIter
import Derived.Test.YtnhnheigdlnokaaStill
namespace Go.Proofs.Ytnhnheigdlnokaa
open Go.RowKit Go.Shelf

theorem Calm.trans {B : Nat} {W W' W'' : World} (h : Calm B W W') (k : Calm B W' W'') : Calm B W W'' :=
  ⟨k.os.trans h.os, k.tape.trans h.tape, k.output.trans h.output, Nat.le_trans h.size k.size, fun i hi => (k.low i hi).trans (h.low i hi), fun i o hi ho => k.cells i o (h.cells i o hi ho) ho⟩

/-- from block B on, nothing that existed has changed -/
structure Mid (B : Nat) (W W' : World) : Prop where
  size : W.heap.size ≤ W'.heap.size
  all : ∀ (k : Nat) (o : Obj), B ≤ k → W.heap[k]? = some o → W'.heap[k]? = some o
theorem Mid.refl (B : Nat) (W : World) : Mid B W W := ⟨Nat.le_refl _, fun _ _ _ h => h⟩
theorem Mid.trans {B : Nat} {W W' W'' : World} (h : Mid B W W') (k : Mid B W' W'') : Mid B W W'' := ⟨Nat.le_trans h.size k.size, fun i o hB hi => k.all i o hB (h.all i o hB hi)⟩
theorem Mid.below {B : Nat} {W W' : World} (h : Below W.heap.size W W') : Mid B W W' := ⟨h.size, fun i _ _ hi => (h.block i (Array.getElem?_eq_some_iff.1 hi).1).trans hi⟩
theorem Mid.set {B : Nat} {W W' : World} (h : Mid B W W') {p : Addr} (hp : p.block < B) (u : Value) : Mid B W (W'.setCell p u) := ⟨by simpa using h.size, fun i o hB hi => (Below.heap_setCell W' p u i (by omega)).trans (h.all i o hB hi)⟩
theorem Mid.drew {B : Nat} {W W' : World} (h : Mid B W W') : Mid B W W'.drew := ⟨h.size, h.all⟩
theorem Mid.grown {B : Nat} {W W' : World} {row : Option Nat} (h : W.grownBy W' row) (hr : ∀ k, row = some k → k < B) : Mid B W W' :=
  ⟨h.size, fun i _ hB hi => (h.block i (Array.getElem?_eq_some_iff.1 hi).1 (fun e => by have := hr i e.symm; omega)).trans hi⟩
theorem Box.mid {B : Nat} {W W' : World} {g : Nat} {t : TypeId} {cs : Array Value} (h : Box W g t cs) (hm : Mid B W W') (hg : B ≤ g) : Box W' g t cs := hm.all g _ hg h

/-! ### regions that draw their order, in a round -/
theorem any_gate {F : Fence} {n : Nat} {P : Program} {md : Region.Mode} {ops : Array Oper} {Q : Exit → Act → World → Prop} {f : Nat} {l : Array Bool} {a : Act} {w : World} (h : wpAnyIn F n P md ops Q f l a w) : wpAnyIn F n P md ops Q f l a w := h
theorem step_pos {c A B : Prop} [Decidable c] (hc : c) (h : A) : if c then A else B := by rw [if_pos hc]; exact h
section
variable {P : Program} {ops : Array Oper} {md : Region.Mode} {n L : Nat} {Q : Exit → Act → World → Prop}
theorem wpOpIn_round (hd : noDefer ops = true) {i : Nat} {a : Act} {w : World} {K K' : Act → World → Prop} (h : ∀ a w, K a w → K' a w) (hh : wpOpIn Fence.wide n P ops Q i K a w) : wpOpIn (Fence.wide.inRound L) n P ops Q i K' a w := by
  have hh := wpOpIn_mono h hh
  unfold wpOpIn at hh ⊢
  cases ho : ops[i]? with
  | none => simp only [ho] at hh ⊢; exact hh
  | some o =>
    simp only [ho] at hh ⊢
    split
    · rename_i hw
      simp only [hw, if_true] at hh
      unfold Oper.wpIn at hh ⊢
      refine ⟨fun _ _ => trivial, ?_⟩
      have h2 := hh.2
      rw [Oper.semAt_eq _ _ _ (noDefer_spec hd ho)] at h2 ⊢
      exact h2
    · rename_i hw
      simp only [hw] at hh
      exact ⟨fun _ _ => trivial, hh.2⟩
theorem wpAnyIn_round (hd : noDefer ops = true) : ∀ (fuel : Nat) (listed : Array Bool) (a : Act) (w : World), wpAnyIn Fence.wide n P md ops Q fuel listed a w → wpAnyIn (Fence.wide.inRound L) n P md ops Q fuel listed a w
  | 0, _, _, _, h => h
  | fuel + 1, _, _, _, h => ⟨h.1, fun i hi => wpOpIn_round hd (wpAnyIn_round hd fuel _) (h.2 i hi)⟩
end

/-- an iterator that hands out encs 0, .., encs (N - 1), as long as Rd holds -/
def Iter2 (F : Fence) (n : Nat) (P : Program) (g : Nat) (lb : Array Value) (encs : Nat → Array Value) (N : Nat) (Rd : World → Prop) : Prop :=
  ∀ (l : Nat) (J Jx : Nat → World → Prop) (W : World), Rd W → (∀ k W W', J k W → Below W.heap.size W W' → J k W') →
    (∀ k W0 W1, k < N → J k W0 → Below W0.heap.size W0 W1 → Rd W1 → YieldAt F (n - 1) P l (encs k) W1 fun e W' => (e = .returned (.bool true) ∧ J (k + 1) W' ∧ Rd W' ∧ Mid W0.heap.size W1 W') ∨ (e = .returned (.bool false) ∧ Jx k W')) →
    J 0 W →
    CallsIn F n P g (#[.func (.yield l) #[] #[]] ++ lb) W fun e W' => (∃ v, e = .returned v) ∧ (J N W' ∨ ∃ k, k < N ∧ Jx k W')

/-- how the body of a round may be left -/
def roundPost2 (B B0 : Nat) (Rd : World → Prop) (I : Nat → World → Prop) (Ix : Code → Nat → World → Prop) (k : Nat) (W : World) : Exit → Act → World → Prop
  | .normal, _, W' => KeepsFrom B W W' ∧ I (k + 1) W' ∧ Rd W' ∧ Mid B0 W W'
  | .ret, _, W' => KeepsFrom B W W' ∧ Ix .ret k W'
  | .exit id, _, W' => KeepsFrom B W W' ∧ Ix (.exit id) k W'
  | .goto t, _, W' => KeepsFrom B W W' ∧ Ix (.goto t) k W'
  | .panic _, _, _ => False
  | .outgrown, _, _ => False

section
variable {F : Fence} {n : Nat} {P : Program}
theorem range_idx2 {g : Operand} {ps : Array Tmp} {assign body : Code} {Q : Exit → Act → World → Prop} {a : Act} {w : World}
    (hro : F.round = none) (h1 : 1 ≤ n) {gf : Nat} {lb : Array Value} (hg : a.eval g = .func (.func gf) #[] lb) (hFg : F.fn gf) (eg : ∀ args w, (callFunc gf args).run P w = .ok (.enter gf args) w)
    {encs : Nat → Array Value} {N : Nat} {Rd : World → Prop} (hit : Iter2 F (n - 1) P gf lb encs N Rd) (hps : ∀ k, (encs k).size = ps.size)
    (hRd0 : Rd w) (hRd : ∀ W W', Rd W → Calm w.heap.size W W' → Rd W')
    (I : Nat → World → Prop) (Ix : Code → Nat → World → Prop) (hI : ∀ k W W', I k W → Calm w.heap.size W W' → I k W') (hIx : ∀ c k W W', Ix c k W → Calm w.heap.size W W' → Ix c k W') (h0 : I 0 w)
    (Ax : Nat → Act → World → Prop) (hAx : ∀ k a' W W', Ax k a' W → Calm w.heap.size W W' → Ax k a' W')
    (hassign : ∀ (l k : Nat) (W : World) (K : Act → World → Prop), k < N → I k W → Rd W → w.heap.size ≤ W.heap.size → (∀ a' W', Below W.heap.size W W' → Ax k a' W' → K a' W') →
      assign.wpIn (F.inRound l) (n - 1 - 1) P (Exit.then K (fun _ _ _ => False)) { tmps := (ps.zip (encs k)).foldl (fun t (p, v) => t.setIfInBounds p v) a.tmps, defers := [] } W)
    (hbody : ∀ (l k : Nat) (a' : Act) (W0 W : World), k < N → I k W0 → w.heap.size + 1 < W0.heap.size → Calm w.heap.size W0 W → I k W → Rd W → Ax k a' W → w.heap.size ≤ W.heap.size → body.wpIn (F.inRound l) (n - 1 - 1) P (roundPost2 w.heap.size W0.heap.size Rd I Ix k W) a' W)
    (hdone : ∀ (W : World), I N W → W.heap[w.heap.size]? = some (.deferred (some [])) → Q .normal { a with defers := { target := .collected w.heap.size, args := #[] } :: a.defers } W)
    (hstop : ∀ (c : Code) (k : Nat) (W : World), k < N → Ix c k W → W.heap[w.heap.size]? = some (.deferred (some [])) → c.wpIn F n P Q { a with defers := { target := .collected w.heap.size, args := #[] } :: a.defers } W) :
    (Code.rangeFunc g ps assign body).wpIn F n P Q a w := by
  refine wpIn_rangeFunc ?_
  intro fn hfn
  rw [hro]
  obtain ⟨rec, hrec⟩ : ∃ rec : LoopState → Option Code → Loop, rec = fun st pe => { state := st, pending := pe, fn, tmps := a.tmps, params := ps, assign, body, defers := w.heap.size } := ⟨_, rfl⟩
  obtain ⟨W1, hW1⟩ : ∃ W1, (w.alloc (.deferred (some []))).alloc (.loop (rec .ready none)) = W1 := ⟨_, rfl⟩
  have hL1 : W1.heap[w.heap.size + 1]? = some (.loop (rec .ready none)) := by
    rw [← hW1]; have := World.alloc_heap_new (w.alloc (.deferred (some []))) (.loop (rec .ready none)); rwa [World.size_alloc] at this
  have hK1 : W1.heap[w.heap.size]? = some (.deferred (some [])) := by
    rw [← hW1]; exact (Below.heap_alloc _ _ _ (by simp)).trans (World.alloc_heap_new w _)
  have hC1 : Calm w.heap.size w W1 := by
    rw [← hW1]; exact Calm.below (((Below.refl _ w).alloc (Nat.le_refl _) _).alloc (by simp) _) (Nat.le_refl _)
  have hI1 : I 0 W1 := hI _ _ _ h0 hC1
  have hR1 : Rd W1 := hRd _ _ hRd0 hC1
  refine ⟨w.heap.size + 1, [{ target := .collected w.heap.size, args := #[] }], W1, { target := .fn (.func gf) lb, args := #[.func (.yield (w.heap.size + 1)) #[] #[]] }, W1, gf,
    #[.func (.yield (w.heap.size + 1)) #[] #[]] ++ lb, W1, ?_, ?_, ?_, ?_, fun _ => h1, ?_⟩
  · rw [← hW1, hrec]; exact run_enterLoop_outer _ _ _ _ _
  · simp only [resolve, hg]
    simp [go_sem]
  · intro f' hf'; simp [Target.leads] at hf'; subst hf'; exact hFg
  · simp [invoke, go_sem, eg]
  · refine (hit (w.heap.size + 1)
      (fun k W => I k W ∧ W.heap[w.heap.size + 1]? = some (.loop (rec .ready none)) ∧ W.heap[w.heap.size]? = some (.deferred (some [])))
      (fun k W => ∃ c, Ix c k W ∧ W.heap[w.heap.size + 1]? = some (.loop (rec .done (some c))) ∧ W.heap[w.heap.size]? = some (.deferred (some [])))
      W1 hR1 ?_ ?_ ⟨hI1, hL1, hK1⟩).mono ?_
    · rintro k W W' ⟨hi, hl, hk⟩ hb
      have hlt : w.heap.size + 1 < W.heap.size := (Array.getElem?_eq_some_iff.1 hl).1
      exact ⟨hI _ _ _ hi (Calm.below hb (by omega)), (hb.block _ hlt).trans hl, (hb.block _ (by omega)).trans hk⟩
    · -- one round
      rintro k W0 W hkN ⟨hi, hl, hk⟩ hb0 hrd
      have hi0 := hi
      have hlt0 : w.heap.size + 1 < W0.heap.size := (Array.getElem?_eq_some_iff.1 hl).1
      have hc0 : Calm w.heap.size W0 W := Calm.below hb0 (by omega)
      replace hi := hI _ _ _ hi hc0
      replace hl := (hb0.block _ hlt0).trans hl
      replace hk := (hb0.block _ (by omega)).trans hk
      obtain ⟨W1, hW1'⟩ : ∃ W1, W1 = W := ⟨_, rfl⟩
      have hlt : w.heap.size + 1 < W.heap.size := (Array.getElem?_eq_some_iff.1 hl).1
      have hy := run_yield (P := P) (args := encs k) hl (by rw [hrec]; exact hps k)
      rw [hrec] at hy
      refine ⟨fn, _, assign, body, hy, roundIn_of_wpIn hfn (hassign _ k W _ hkN hi hrd (by omega) ?_)⟩
      clear hy
      intro a' Wa hba hax
      have hca : Calm w.heap.size W Wa := Calm.below hba (by omega)
      replace hl := (hba.block _ hlt).trans hl
      replace hk := (hba.block _ (by omega)).trans hk
      replace hlt : w.heap.size + 1 < Wa.heap.size := (Array.getElem?_eq_some_iff.1 hl).1
      replace hi := hI _ _ _ hi hca
      replace hrd := hRd _ _ hrd hca
      have hc1 : Calm w.heap.size W0 Wa := hc0.trans hca
      have hba1 : Below W1.heap.size W1 Wa := by rw [hW1']; exact hba
      clear hca hba
      obtain ⟨W, rfl⟩ : ∃ W, W = Wa := ⟨_, rfl⟩
      refine ⟨_, run_beginRound hl (by rw [hrec]), ?_⟩
      have hl2 : (W.putObj (w.heap.size + 1) (.loop { rec .ready none with state := .busy })).heap[w.heap.size + 1]? = some (.loop { rec .ready none with state := .busy }) := World.putObj_heap_same hlt
      have hk2 : (W.putObj (w.heap.size + 1) (.loop { rec .ready none with state := .busy })).heap[w.heap.size]? = some (.deferred (some [])) := (World.putObj_heap_other (by omega)).trans hk
      have hc2 : Calm w.heap.size W (W.putObj (w.heap.size + 1) (.loop { rec .ready none with state := .busy })) := Calm.put _ (by omega) hl rfl
      refine wpIn_mono (hbody _ k a' W0 _ hkN hi0 hlt0 (hc1.trans hc2) (hI _ _ _ hi hc2) (hRd _ _ hrd hc2) (hAx _ _ _ _ hax hc2) (Nat.le_trans (by omega) hc2.size)) ?_
      have fin : ∀ (jump : Option Code) (W3 : World), KeepsFrom w.heap.size (W.putObj (w.heap.size + 1) (.loop { rec .ready none with state := .busy })) W3 →
          (Instr.endRound (w.heap.size + 1) jump).run P W3 = .ok (.bool jump.isNone) (W3.putObj (w.heap.size + 1) (.loop (rec (if jump.isNone then .ready else .done) jump))) ∧
          W3.heap[w.heap.size + 1]? = some (.loop { rec .ready none with state := .busy }) ∧
          (W3.putObj (w.heap.size + 1) (.loop (rec (if jump.isNone then .ready else .done) jump))).heap[w.heap.size + 1]? = some (.loop (rec (if jump.isNone then .ready else .done) jump)) ∧
          (W3.putObj (w.heap.size + 1) (.loop (rec (if jump.isNone then .ready else .done) jump))).heap[w.heap.size]? = some (.deferred (some [])) := fun jump W3 hk3 => by
        have hl3 := hk3.same _ _ (by omega) hl2 rfl
        have := run_endRound (P := P) jump hl3
        rw [hrec] at this ⊢
        exact ⟨this, by rw [hrec] at hl3; exact hl3, World.putObj_heap_same (Array.getElem?_eq_some_iff.1 hl3).1, (World.putObj_heap_other (by omega)).trans (hk3.same _ _ (Nat.le_refl _) hk2 rfl)⟩
      rintro e a3 W3 hp
      cases e with
      | normal =>
        obtain ⟨hk3, hi3, hr3, hm3⟩ := hp
        obtain ⟨hr, hl3, hl4, hk4⟩ := fin none W3 hk3
        subst hW1'
        refine ⟨_, _, hr, .inl ⟨rfl, ⟨hI _ _ _ hi3 (Calm.put _ (by omega) hl3 rfl), hl4, hk4⟩, hRd _ _ hr3 (Calm.put _ (by omega) hl3 rfl), ?_, ?_⟩⟩
        · have h1 := hba1.size
          have h2 := hm3.size
          simp at h2 ⊢
          omega
        · intro i o hBi hio
          have e1 := (hba1.block i (Array.getElem?_eq_some_iff.1 hio).1).trans hio
          have e2 := hm3.all i o hBi ((World.putObj_heap_other (by omega)).trans e1)
          exact (World.putObj_heap_other (by omega)).trans e2
      | ret =>
        obtain ⟨hk3, hi3⟩ := hp
        obtain ⟨hr, hl3, hl4, hk4⟩ := fin (some .ret) W3 hk3
        exact ⟨_, _, hr, .inr ⟨rfl, .ret, hIx _ _ _ _ hi3 (Calm.put _ (by omega) hl3 rfl), hl4, hk4⟩⟩
      | exit id =>
        obtain ⟨hk3, hi3⟩ := hp
        obtain ⟨hr, hl3, hl4, hk4⟩ := fin (some (.exit id)) W3 hk3
        exact ⟨_, _, hr, .inr ⟨rfl, .exit id, hIx _ _ _ _ hi3 (Calm.put _ (by omega) hl3 rfl), hl4, hk4⟩⟩
      | goto t =>
        obtain ⟨hk3, hi3⟩ := hp
        obtain ⟨hr, hl3, hl4, hk4⟩ := fin (some (.goto t)) W3 hk3
        exact ⟨_, _, hr, .inr ⟨rfl, .goto t, hIx _ _ _ _ hi3 (Calm.put _ (by omega) hl3 rfl), hl4, hk4⟩⟩
      | panic ch => exact hp.elim
      | outgrown => exact hp.elim
    · -- behind the iterator
      rintro e W2 ⟨⟨v, rfl⟩, (⟨hi, hl, hk⟩ | ⟨k, hkN, c, hi, hl, hk⟩)⟩
      · exact ⟨none, _, by have := run_endLoop (P := P) hl (by rw [hrec]; simp); rw [hrec] at this; exact this, hdone _ (hI _ _ _ hi (Calm.put _ (by omega) hl rfl)) ((World.putObj_heap_other (by omega)).trans hk)⟩
      · exact ⟨some c, _, by have := run_endLoop (P := P) hl (by rw [hrec]; simp); rw [hrec] at this; exact this, hstop c k _ hkN (hIx _ _ _ _ hi (Calm.put _ (by omega) hl rfl)) ((World.putObj_heap_other (by omega)).trans hk)⟩
end

end Go.Proofs.Ytnhnheigdlnokaa
