/- A range over an iterator that keeps a variable of its own, of a type t, in memory over its rounds and writes it: the law of XIter, where what the loop holds minds no cells of type t, and the body leaves such cells alone. -/
import Derived.Test.YtnhnheigdlnokaaIter2
namespace Go.Proofs.Ytnhnheigdlnokaa
open Go.RowKit Go.Shelf

/-- an object is cells of type t -/
def IsT (t : TypeId) : Obj → Prop
  | .cells _ e _ => e = t
  | _ => False

/-- as Calm, but cells of type t may change -/
structure CalmT (B : Nat) (t : TypeId) (W W' : World) : Prop where
  os : W'.os = W.os
  tape : W'.tape = W.tape
  output : W'.output = W.output
  size : W.heap.size ≤ W'.heap.size
  low : ∀ k, k < B → W'.heap[k]? = W.heap[k]?
  cells : ∀ (k : Nat) (o : Obj), W.heap[k]? = some o → o.isCells = true → ¬ IsT t o → W'.heap[k]? = some o
theorem Calm.t {B : Nat} {t : TypeId} {W W' : World} (h : Calm B W W') : CalmT B t W W' := ⟨h.os, h.tape, h.output, h.size, h.low, fun k o h1 h2 _ => h.cells k o h1 h2⟩
theorem Box.calmT {B : Nat} {t e : TypeId} {W W' : World} {g : Nat} {cs : Array Value} (h : Box W g e cs) (hc : CalmT B t W W') (hne : e ≠ t) : Box W' g e cs := hc.cells g _ h rfl hne
theorem below_calmT {B B' : Nat} {t : TypeId} {w W W' : World} (h : Below B' w W) (hc : CalmT B t W W') (hB : B' ≤ B) : Below B' w W' :=
  h.trans ⟨hc.os, hc.tape, hc.output, hc.size, fun k hk => hc.low k (by omega)⟩
theorem own_calmT {B : Nat} {t : TypeId} {w w' : World} {base : Nat} {e : TypeId} {size : Nat} {v : Value} {n : Nat} {xs : List Value} (h : w.ownsRow base e size v n xs) (hc : CalmT B t w w') (hne : e ≠ t) : w'.ownsRow base e size v n xs := by
  obtain ⟨h1, h2⟩ := h
  refine ⟨h1, ?_⟩
  rcases h2 with h2 | ⟨g, cap, cur, hv, hg, hh, r⟩
  · exact .inl h2
  · exact .inr ⟨g, cap, cur, hv, hg, hc.cells g _ hh rfl hne, r⟩

/-- what exists stays, but for cells of type t from B on -/
structure Tide (B : Nat) (t : TypeId) (W W' : World) : Prop where
  os : W'.os = W.os
  tape : W'.tape = W.tape
  output : W'.output = W.output
  size : W.heap.size ≤ W'.heap.size
  low : ∀ k, k < B → W'.heap[k]? = W.heap[k]?
  rest : ∀ (k : Nat) (o : Obj), W.heap[k]? = some o → ¬ IsT t o → W'.heap[k]? = some o
theorem Tide.below {B : Nat} {t : TypeId} {W W' : World} (h : Below W.heap.size W W') (hB : B ≤ W.heap.size) : Tide B t W W' :=
  ⟨h.os, h.tape, h.output, h.size, fun k hk => h.block k (by omega), fun k _ ho _ => (h.block k (Array.getElem?_eq_some_iff.1 ho).1).trans ho⟩
theorem Tide.set {B : Nat} {t : TypeId} {W : World} {g : Nat} {cs : Array Value} (h : Box W g t cs) (hB : B ≤ g) (i : Nat) (u : Value) : Tide B t W (W.setCell ⟨g, i, none⟩ u) := by
  refine ⟨rfl, rfl, rfl, by simp, fun k hk => Below.heap_setCell W ⟨g, i, none⟩ u k (by simp; omega), fun k o ho hn => ?_⟩
  by_cases e : k = g
  · subst e
    unfold Box at h
    rw [h] at ho
    injection ho with ho
    subst ho
    exact absurd rfl hn
  · exact (Below.heap_setCell W ⟨g, i, none⟩ u k (by simpa using e)).trans ho
theorem Tide.trans {B : Nat} {t : TypeId} {W W' W'' : World} (h : Tide B t W W') (k : Tide B t W' W'') : Tide B t W W'' :=
  ⟨k.os.trans h.os, k.tape.trans h.tape, k.output.trans h.output, Nat.le_trans h.size k.size, fun i hi => (k.low i hi).trans (h.low i hi), fun i o hi hn => k.rest i o (h.rest i o hi hn) hn⟩
theorem Tide.calm {B B' : Nat} {t : TypeId} {W W' : World} (h : Tide B t W W') (hB : B' ≤ B) : CalmT B' t W W' := ⟨h.os, h.tape, h.output, h.size, fun k hk => h.low k (by omega), fun k o h1 _ h3 => h.rest k o h1 h3⟩

/-- cells of type t stay -/
structure Firm (t : TypeId) (W W' : World) : Prop where
  size : W.heap.size ≤ W'.heap.size
  all : ∀ (k : Nat) (o : Obj), W.heap[k]? = some o → IsT t o → W'.heap[k]? = some o
theorem Firm.refl (t : TypeId) (W : World) : Firm t W W := ⟨Nat.le_refl _, fun _ _ h _ => h⟩
theorem Firm.trans {t : TypeId} {W W' W'' : World} (h : Firm t W W') (k : Firm t W' W'') : Firm t W W'' := ⟨Nat.le_trans h.size k.size, fun i o hi hn => k.all i o (h.all i o hi hn) hn⟩
theorem Firm.below {t : TypeId} {W W' : World} (h : Below W.heap.size W W') : Firm t W W' := ⟨h.size, fun k _ ho _ => (h.block k (Array.getElem?_eq_some_iff.1 ho).1).trans ho⟩
theorem Firm.set {t e : TypeId} {W : World} {g : Nat} {cs : Array Value} (h : Box W g e cs) (hne : e ≠ t) (i : Nat) (u : Value) : Firm t W (W.setCell ⟨g, i, none⟩ u) := by
  refine ⟨by simp, fun k o ho hn => ?_⟩
  by_cases e' : k = g
  · subst e'
    unfold Box at h
    rw [h] at ho
    injection ho with ho
    subst ho
    exact absurd hn hne
  · exact (Below.heap_setCell W ⟨g, i, none⟩ u k (by simpa using e')).trans ho
theorem Firm.grown {t e : TypeId} {W W' : World} {base size : Nat} {v : Value} {n : Nat} {xs : List Value} (h : W.ownsRow base e size v n xs) (hne : e ≠ t) (hg : W.grownBy W' v.ownBlock) : Firm t W W' := by
  refine ⟨hg.size, fun k o ho hn => (hg.block k (Array.getElem?_eq_some_iff.1 ho).1 (fun e' => ?_)).trans ho⟩
  rcases h.2 with ⟨rfl, _⟩ | ⟨g, cap, cur, rfl, _, hh, _⟩
  · cases e'
  · have e2 : k = g := by
      have e3 : (Value.slice (some ⟨g, 0, none⟩) n cap).ownBlock = some g := rfl
      rw [e3] at e'
      injection e'
    subst e2
    rw [hh] at ho
    injection ho with ho
    subst ho
    exact hne hn
theorem Firm.put {t : TypeId} {W : World} {l : Nat} {o : Obj} (o' : Obj) (hl : W.heap[l]? = some o) (hn : ¬ IsT t o) : Firm t W (W.putObj l o') := by
  refine ⟨by simp, fun k x hx hc => ?_⟩
  by_cases e : k = l
  · subst e
    rw [hl] at hx
    cases hx
    exact absurd hc hn
  · exact (World.putObj_heap_other (by omega)).trans hx
theorem Box.firm {t : TypeId} {W W' : World} {g : Nat} {cs : Array Value} (h : Box W g t cs) (hf : Firm t W W') : Box W' g t cs := hf.all g _ h rfl

/-- an iterator that hands out encs 0, .., encs (N - 1), as long as Rd holds, and keeps a variable of type t -/
def Iter3 (F : Fence) (n : Nat) (P : Program) (g : Nat) (lb : Array Value) (encs : Nat → Array Value) (N : Nat) (Rd : World → Prop) (t : TypeId) : Prop :=
  ∀ (l : Nat) (J Jx : Nat → World → Prop) (W : World), Rd W → (∀ k W1 W2, J k W1 → Tide W.heap.size t W1 W2 → J k W2) →
    (∀ k W1, k < N → J k W1 → Rd W1 → YieldAt F (n - 1) P l (encs k) W1 fun e W' => (e = .returned (.bool true) ∧ J (k + 1) W' ∧ Rd W' ∧ Firm t W1 W') ∨ (e = .returned (.bool false) ∧ Jx k W')) →
    J 0 W →
    CallsIn F n P g (#[.func (.yield l) #[] #[]] ++ lb) W fun e W' => (∃ v, e = .returned v) ∧ (J N W' ∨ ∃ k, k < N ∧ Jx k W')

/-- how the body of a round may be left -/
def roundPost3 (B : Nat) (t : TypeId) (Rd : World → Prop) (I : Nat → World → Prop) (Ix : Code → Nat → World → Prop) (k : Nat) (W : World) : Exit → Act → World → Prop
  | .normal, _, W' => KeepsFrom B W W' ∧ I (k + 1) W' ∧ Rd W' ∧ Firm t W W'
  | .ret, _, W' => KeepsFrom B W W' ∧ Ix .ret k W'
  | .exit id, _, W' => KeepsFrom B W W' ∧ Ix (.exit id) k W'
  | .goto t, _, W' => KeepsFrom B W W' ∧ Ix (.goto t) k W'
  | .panic _, _, _ => False
  | .outgrown, _, _ => False

section
variable {F : Fence} {n : Nat} {P : Program}
theorem range_idx3 {g : Operand} {ps : Array Tmp} {assign body : Code} {Q : Exit → Act → World → Prop} {a : Act} {w : World}
    (hro : F.round = none) (h1 : 1 ≤ n) {gf : Nat} {lb : Array Value} (hg : a.eval g = .func (.func gf) #[] lb) (hFg : F.fn gf) (eg : ∀ args w, (callFunc gf args).run P w = .ok (.enter gf args) w)
    {encs : Nat → Array Value} {N : Nat} {Rd : World → Prop} {t : TypeId} (hit : Iter3 F (n - 1) P gf lb encs N Rd t) (hps : ∀ k, (encs k).size = ps.size)
    (hRd0 : Rd w) (hRd : ∀ W W', Rd W → Calm w.heap.size W W' → Rd W')
    (I : Nat → World → Prop) (Ix : Code → Nat → World → Prop) (hI : ∀ k W W', I k W → CalmT w.heap.size t W W' → I k W') (hIx : ∀ c k W W', Ix c k W → CalmT w.heap.size t W W' → Ix c k W') (h0 : I 0 w)
    (Ax : Nat → Act → World → Prop) (hAx : ∀ k a' W W', Ax k a' W → Calm w.heap.size W W' → Ax k a' W')
    (hassign : ∀ (l k : Nat) (W : World) (K : Act → World → Prop), k < N → I k W → Rd W → w.heap.size ≤ W.heap.size → (∀ a' W', Below W.heap.size W W' → Ax k a' W' → K a' W') →
      assign.wpIn (F.inRound l) (n - 1 - 1) P (Exit.then K (fun _ _ _ => False)) { tmps := (ps.zip (encs k)).foldl (fun t (p, v) => t.setIfInBounds p v) a.tmps, defers := [] } W)
    (hbody : ∀ (l k : Nat) (a' : Act) (W : World), k < N → w.heap.size + 1 < W.heap.size → I k W → Rd W → Ax k a' W → w.heap.size ≤ W.heap.size → body.wpIn (F.inRound l) (n - 1 - 1) P (roundPost3 w.heap.size t Rd I Ix k W) a' W)
    (hdone : ∀ (W : World), I N W → W.heap[w.heap.size]? = some (.deferred (some [])) → Q .normal { a with defers := { target := .collected w.heap.size, args := #[] } :: a.defers } W)
    (hstop : ∀ (c : Code) (k : Nat) (W : World), k < N → Ix c k W → W.heap[w.heap.size]? = some (.deferred (some [])) → c.wpIn F n P Q { a with defers := { target := .collected w.heap.size, args := #[] } :: a.defers } W) :
    (Code.rangeFunc g ps assign body).wpIn F n P Q a w := by
  refine wpIn_rangeFunc ?_
  intro fn hfn
  rw [hro]
  obtain ⟨rec, hrec⟩ : ∃ rec : LoopState → Option Code → Loop, rec = fun st pe => { state := st, pending := pe, fn, tmps := a.tmps, params := ps, assign, body, defers := w.heap.size } := ⟨_, rfl⟩
  obtain ⟨W1, hW1⟩ : ∃ W1, (w.alloc (.deferred (some []))).alloc (.loop (rec .ready none)) = W1 := ⟨_, rfl⟩
  have hL1 : W1.heap[w.heap.size + 1]? = some (.loop (rec .ready none)) := by
    rw [← hW1]; have := World.alloc_heap_new (w.alloc (.deferred (some []))) (.loop (rec .ready none)); rwa [World.size_alloc] at this
  have hK1 : W1.heap[w.heap.size]? = some (.deferred (some [])) := by
    rw [← hW1]; exact (Below.heap_alloc _ _ _ (by simp)).trans (World.alloc_heap_new w _)
  have hC1 : Calm w.heap.size w W1 := by
    rw [← hW1]; exact Calm.below (((Below.refl _ w).alloc (Nat.le_refl _) _).alloc (by simp) _) (Nat.le_refl _)
  have hI1 : I 0 W1 := hI _ _ _ h0 hC1.t
  have hS1 : w.heap.size ≤ W1.heap.size := hC1.size
  have hR1 : Rd W1 := hRd _ _ hRd0 hC1
  refine ⟨w.heap.size + 1, [{ target := .collected w.heap.size, args := #[] }], W1, { target := .fn (.func gf) lb, args := #[.func (.yield (w.heap.size + 1)) #[] #[]] }, W1, gf,
    #[.func (.yield (w.heap.size + 1)) #[] #[]] ++ lb, W1, ?_, ?_, ?_, ?_, fun _ => h1, ?_⟩
  · rw [← hW1, hrec]; exact run_enterLoop_outer _ _ _ _ _
  · simp only [resolve, hg]
    simp [go_sem]
  · intro f' hf'; simp [Target.leads] at hf'; subst hf'; exact hFg
  · simp [invoke, go_sem, eg]
  · refine (hit (w.heap.size + 1)
      (fun k W => I k W ∧ W.heap[w.heap.size + 1]? = some (.loop (rec .ready none)) ∧ W.heap[w.heap.size]? = some (.deferred (some [])))
      (fun k W => ∃ c, Ix c k W ∧ W.heap[w.heap.size + 1]? = some (.loop (rec .done (some c))) ∧ W.heap[w.heap.size]? = some (.deferred (some [])))
      W1 hR1 ?_ ?_ ⟨hI1, hL1, hK1⟩).mono ?_
    · rintro k W W' ⟨hi, hl, hk⟩ hb
      exact ⟨hI _ _ _ hi (hb.calm hS1), hb.rest _ _ hl (by simp [IsT]), hb.rest _ _ hk (by simp [IsT])⟩
    · -- one round
      rintro k W hkN ⟨hi, hl, hk⟩ hrd
      obtain ⟨W1, hW1'⟩ : ∃ W1, W1 = W := ⟨_, rfl⟩
      have hlt : w.heap.size + 1 < W.heap.size := (Array.getElem?_eq_some_iff.1 hl).1
      have hy := run_yield (P := P) (args := encs k) hl (by rw [hrec]; exact hps k)
      rw [hrec] at hy
      refine ⟨fn, _, assign, body, hy, roundIn_of_wpIn hfn (hassign _ k W _ hkN hi hrd (by omega) ?_)⟩
      clear hy
      intro a' Wa hba hax
      have hca : Calm w.heap.size W Wa := Calm.below hba (by omega)
      replace hl := (hba.block _ hlt).trans hl
      replace hk := (hba.block _ (by omega)).trans hk
      replace hlt : w.heap.size + 1 < Wa.heap.size := (Array.getElem?_eq_some_iff.1 hl).1
      replace hi := hI _ _ _ hi hca.t
      replace hrd := hRd _ _ hrd hca
      have hba1 : Below W1.heap.size W1 Wa := by rw [hW1']; exact hba
      clear hca hba
      obtain ⟨W, rfl⟩ : ∃ W, W = Wa := ⟨_, rfl⟩
      have hl2' := hl
      refine ⟨_, run_beginRound hl (by rw [hrec]), ?_⟩
      have hl2 : (W.putObj (w.heap.size + 1) (.loop { rec .ready none with state := .busy })).heap[w.heap.size + 1]? = some (.loop { rec .ready none with state := .busy }) := World.putObj_heap_same hlt
      have hk2 : (W.putObj (w.heap.size + 1) (.loop { rec .ready none with state := .busy })).heap[w.heap.size]? = some (.deferred (some [])) := (World.putObj_heap_other (by omega)).trans hk
      have hc2 : Calm w.heap.size W (W.putObj (w.heap.size + 1) (.loop { rec .ready none with state := .busy })) := Calm.put _ (by omega) hl rfl
      refine wpIn_mono (hbody _ k a' _ hkN (Nat.lt_of_lt_of_le hlt hc2.size) (hI _ _ _ hi hc2.t) (hRd _ _ hrd hc2) (hAx _ _ _ _ hax hc2) (Nat.le_trans (by omega) hc2.size)) ?_
      have fin : ∀ (jump : Option Code) (W3 : World), KeepsFrom w.heap.size (W.putObj (w.heap.size + 1) (.loop { rec .ready none with state := .busy })) W3 →
          (Instr.endRound (w.heap.size + 1) jump).run P W3 = .ok (.bool jump.isNone) (W3.putObj (w.heap.size + 1) (.loop (rec (if jump.isNone then .ready else .done) jump))) ∧
          W3.heap[w.heap.size + 1]? = some (.loop { rec .ready none with state := .busy }) ∧
          (W3.putObj (w.heap.size + 1) (.loop (rec (if jump.isNone then .ready else .done) jump))).heap[w.heap.size + 1]? = some (.loop (rec (if jump.isNone then .ready else .done) jump)) ∧
          (W3.putObj (w.heap.size + 1) (.loop (rec (if jump.isNone then .ready else .done) jump))).heap[w.heap.size]? = some (.deferred (some [])) := fun jump W3 hk3 => by
        have hl3 := hk3.same _ _ (by omega) hl2 rfl
        have := run_endRound (P := P) jump hl3
        rw [hrec] at this ⊢
        exact ⟨this, by rw [hrec] at hl3; exact hl3, World.putObj_heap_same (Array.getElem?_eq_some_iff.1 hl3).1, (World.putObj_heap_other (by omega)).trans (hk3.same _ _ (Nat.le_refl _) hk2 rfl)⟩
      rintro e a3 W3 hp
      cases e with
      | normal =>
        obtain ⟨hk3, hi3, hr3, hm3⟩ := hp
        obtain ⟨hr, hl3, hl4, hk4⟩ := fin none W3 hk3
        subst hW1'
        refine ⟨_, _, hr, .inl ⟨rfl, ⟨hI _ _ _ hi3 (Calm.put _ (by omega) hl3 rfl).t, hl4, hk4⟩, hRd _ _ hr3 (Calm.put _ (by omega) hl3 rfl), ?_⟩⟩
        exact ((Firm.below hba1).trans (Firm.put _ hl2' (by simp [IsT]))).trans (hm3.trans (Firm.put _ hl3 (by simp [IsT])))
      | ret =>
        obtain ⟨hk3, hi3⟩ := hp
        obtain ⟨hr, hl3, hl4, hk4⟩ := fin (some .ret) W3 hk3
        exact ⟨_, _, hr, .inr ⟨rfl, .ret, hIx _ _ _ _ hi3 (Calm.put _ (by omega) hl3 rfl).t, hl4, hk4⟩⟩
      | exit id =>
        obtain ⟨hk3, hi3⟩ := hp
        obtain ⟨hr, hl3, hl4, hk4⟩ := fin (some (.exit id)) W3 hk3
        exact ⟨_, _, hr, .inr ⟨rfl, .exit id, hIx _ _ _ _ hi3 (Calm.put _ (by omega) hl3 rfl).t, hl4, hk4⟩⟩
      | goto t =>
        obtain ⟨hk3, hi3⟩ := hp
        obtain ⟨hr, hl3, hl4, hk4⟩ := fin (some (.goto t)) W3 hk3
        exact ⟨_, _, hr, .inr ⟨rfl, .goto t, hIx _ _ _ _ hi3 (Calm.put _ (by omega) hl3 rfl).t, hl4, hk4⟩⟩
      | panic ch => exact hp.elim
      | outgrown => exact hp.elim
    · -- behind the iterator
      rintro e W2 ⟨⟨v, rfl⟩, (⟨hi, hl, hk⟩ | ⟨k, hkN, c, hi, hl, hk⟩)⟩
      · exact ⟨none, _, by have := run_endLoop (P := P) hl (by rw [hrec]; simp); rw [hrec] at this; exact this, hdone _ (hI _ _ _ hi (Calm.put _ (by omega) hl rfl).t) ((World.putObj_heap_other (by omega)).trans hk)⟩
      · exact ⟨some c, _, by have := run_endLoop (P := P) hl (by rw [hrec]; simp); rw [hrec] at this; exact this, hstop c k _ hkN (hIx _ _ _ _ hi (Calm.put _ (by omega) hl rfl).t) ((World.putObj_heap_other (by omega)).trans hk)⟩
end

end Go.Proofs.Ytnhnheigdlnokaa
