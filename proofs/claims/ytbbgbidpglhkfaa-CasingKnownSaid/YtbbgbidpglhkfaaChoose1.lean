/- Walks of the package casing: the search for the best choice. -/
import Derived.Test.YtbbgbidpglhkfaaChoose
import Derived.Deep.RegionHeld3
import Derived.Deep.AppendLies
namespace Mpl
def sumCost (j : Job) (l : List Int) : Int := sumFrom (costOf j l) 0 l.length
/-- one choice more -/
def better (j : Job) (b : Option (List Int)) (l : List Int) : Option (List Int) :=
  if (bearsFrom j l 0 l.length).1 < 0 then (match b with | none => some l | some k => if sumCost j l < sumCost j k then some l else some k) else b
/-- all choices that begin with so, and have d more grades -/
def explore (j : Job) : Nat → List Int → Option (List Int) → Option (List Int)
  | 0, so, b => better j b so
  | d + 1, so, b => (List.range j.Grades.length).foldl (fun b (g : Nat) => explore j d (so ++ [(g : Int)]) b) b
def chooseOf (j : Job) : Option (List Int) := if checkJob j = 0 then explore j j.Ends.length [] none else none
end Mpl
namespace Go.Proofs.Ytbbgbidpglhkfaa
open Go.RowKit Go.Shelf Mpl

/-- the best choice so far, in memory -/
def BestOk (W : World) (base : Nat) (a : Option Addr) (n cap : Nat) (c : Int) (j : Job) (b : Option (List Int)) : Prop :=
  match b with
  | none => a = none ∧ n = 0 ∧ cap = 0
  | some l => a.isNone = false ∧ l.length = n ∧ W.ownsRow base 3 1 (.slice a n cap) n (l.map (Value.int .i64)) ∧ c = sumCost j l

/-- the state of the search: N is where its variables begin -/
structure ChSt (w : World) (M : Nat) (jc : Array Value) (j : Job) (W : World) (so : List Int) (b : Option (List Int)) (vs : Value) (a : Option Addr) (n cap : Nat) (c : Int) : Prop where
  job : Box W w.heap.size 42 jc
  best : Box W (M) 79 #[.slice a n cap, .int .i64 c]
  bvar : Box W (M + 1) 77 #[.pointer (some ⟨M, 0, none⟩)]
  sov : Box W (M + 1 + 1) 52 #[vs]
  nxt : Box W (M + 1 + 1 + 1) 1 #[.func (.func 40) #[] #[.pointer (some ⟨M + 1 + 1, 0, none⟩), .pointer (some ⟨w.heap.size, 0, none⟩), .pointer (some ⟨M + 1, 0, none⟩), .pointer (some ⟨M + 1 + 1 + 1, 0, none⟩)]]
  own : W.ownsRow (M + 1 + 1 + 1 + 1) 3 1 vs so.length (so.map (Value.int .i64))
  ok : BestOk W (M + 1 + 1 + 1 + 1) a n cap c j b
  apart : (Value.slice a n cap).ownBlock = none ∨ (Value.slice a n cap).ownBlock ≠ vs.ownBlock
  low : Below w.heap.size w W
  lt : w.heap.size < M
  size : M + 1 + 1 + 1 + 1 ≤ W.heap.size
def Ch (w : World) (M : Nat) (jc : Array Value) (j : Job) (W : World) (so : List Int) (b : Option (List Int)) : Prop := ∃ vs a n cap c, ChSt w M jc j W so b vs a n cap c

theorem BestOk.keep {W W' : World} {base : Nat} {a : Option Addr} {n cap : Nat} {c : Int} {j : Job} {b : Option (List Int)} (h : BestOk W base a n cap c j b) (k : W.ownsRow base 3 1 (.slice a n cap) n (((b.getD []).map (Value.int .i64))) → W'.ownsRow base 3 1 (.slice a n cap) n (((b.getD []).map (Value.int .i64)))) : BestOk W' base a n cap c j b := by
  cases b with
  | none => exact h
  | some l => exact ⟨h.1, h.2.1, k h.2.2.1, h.2.2.2⟩

theorem ChSt.under {w W W' : World} {M : Nat} {jc : Array Value} {j : Job} {so : List Int} {b : Option (List Int)} {vs : Value} {a : Option Addr} {n cap : Nat} {c : Int} (h : ChSt w M jc j W so b vs a n cap c) (hb : Below W.heap.size W W') : ChSt w M jc j W' so b vs a n cap c :=
  ⟨h.job.under hb, h.best.under hb, h.bvar.under hb, h.sov.under hb, h.nxt.under hb, own_under h.own hb, h.ok.keep fun k => own_under k hb, h.apart, h.low.trans (hb.mono h.low.size), h.lt, Nat.le_trans h.size hb.size⟩
theorem ChSt.drew {w W : World} {M : Nat} {jc : Array Value} {j : Job} {so : List Int} {b : Option (List Int)} {vs : Value} {a : Option Addr} {n cap : Nat} {c : Int} (h : ChSt w M jc j W so b vs a n cap c) : ChSt w M jc j W.drew so b vs a n cap c := h.under (Below.refl _ W).drew

theorem own_ne_block {W W' : World} {base : Nat} {e : TypeId} {size : Nat} {v : Value} {n : Nat} {xs : List Value} {row : Option Nat} (h : W.ownsRow base e size v n xs) (hg : W.grownBy W' row) (hne : v.ownBlock = none ∨ v.ownBlock ≠ row) : W'.ownsRow base e size v n xs := by
  obtain ⟨h1, h2⟩ := h
  refine ⟨h1, ?_⟩
  rcases h2 with h2 | ⟨g, cap, cur, hv, hgg, hh, r⟩
  · exact .inl h2
  · refine .inr ⟨g, cap, cur, hv, hgg, (hg.block g (Array.getElem?_eq_some_iff.1 hh).1 ?_).trans hh, r⟩
    rcases hne with h | h
    · rw [hv] at h; cases h
    · rw [hv] at h; exact h

theorem Box.grown {w w' : World} {g : Nat} {t : TypeId} {cs : Array Value} {row : Option Nat} (h : Box w g t cs) (hb : w.grownBy w' row) (hg : some g ≠ row) : Box w' g t cs := (hb.block g h.lt hg).trans h

/-- behind an offer -/
theorem ChSt.offered {w W W' : World} {M : Nat} {jc : Array Value} {j : Job} {so : List Int} {b : Option (List Int)} {as' : Option Addr} {ns cs : Nat} {a : Option Addr} {n cap : Nat} {c : Int} (h : ChSt w M jc j W so b (.slice as' ns cs) a n cap c) (hbear : (bearsFrom j so 0 so.length).1 < 0)
    (hO : Offered W (M) (a.isNone || decide (sumCost j so < c)) (.slice a n cap) c (sumCost j so) so W') : Ch w M jc j W' so (better j b so) := by
  obtain ⟨hg, hF, hT⟩ := hO
  have hM := h.lt
  have hown : W'.ownsRow (M + 1 + 1 + 1 + 1) 3 1 (.slice as' ns cs) so.length (so.map (Value.int .i64)) := own_ne_block h.own hg (by
    rcases h.own.2 with ⟨h1, _⟩ | ⟨g, cap, cur, hv, hgg, _⟩
    · rw [h1]; exact .inl rfl
    · right
      rw [hv]
      simp [Value.ownBlock]
      omega)
  have hlow : Below w.heap.size w W' := h.low.trans ⟨hg.os, hg.tape, hg.output, hg.size, fun k hk => hg.block k (by have := h.size; omega) (by simp; omega)⟩
  have hsz := Nat.le_trans h.size hg.size
  unfold better
  rw [if_pos hbear]
  cases hw : (a.isNone || decide (sumCost j so < c))
  · have hbx := hF hw
    refine ⟨_, a, n, cap, c, h.job.grown hg (by intro he; injection he with he; omega), hbx, h.bvar.grown hg (by intro he; injection he with he; omega), h.sov.grown hg (by intro he; injection he with he; omega), h.nxt.grown hg (by intro he; injection he with he; omega), hown, ?_, h.apart, hlow, hM, hsz⟩
    have hok := h.ok
    simp only [Bool.or_eq_false_iff, decide_eq_false_iff_not] at hw
    cases b with
    | none =>
      have : a = none := hok.1
      rw [this] at hw
      simp at hw
    | some l =>
      show BestOk W' _ a n cap c j (if sumCost j so < sumCost j l then some so else some l)
      rw [if_neg (by rw [← hok.2.2.2]; exact hw.2)]
      refine hok.keep fun k => own_ne_block k hg ?_
      rcases k.2 with ⟨h1, _⟩ | ⟨g, cap, cur, hv, hgg, _⟩
      · rw [h1]; exact .inl rfl
      · right
        rw [hv]
        simp [Value.ownBlock]
        omega
  · obtain ⟨g, cap', hbx, hown'⟩ := hT hw
    refine ⟨_, some ⟨g, 0, none⟩, so.length, cap', sumCost j so, h.job.grown hg (by intro he; injection he with he; omega), hbx, h.bvar.grown hg (by intro he; injection he with he; omega), h.sov.grown hg (by intro he; injection he with he; omega), h.nxt.grown hg (by intro he; injection he with he; omega), hown, ?_, ?_, hlow, hM, hsz⟩
    · have hok := h.ok
      have hnew : BestOk W' (M + 1 + 1 + 1 + 1) (some ⟨g, 0, none⟩) so.length cap' (sumCost j so) j (some so) := ⟨rfl, rfl, own_le hown' h.size, rfl⟩
      cases b with
      | none => exact hnew
      | some l =>
        show BestOk W' _ _ _ _ _ j (if sumCost j so < sumCost j l then some so else some l)
        rw [if_pos]
        · exact hnew
        · rw [hok.1, Bool.false_or, decide_eq_true_eq] at hw
          rw [← hok.2.2.2]
          exact hw
    · right
      have hgl : W.heap.size ≤ g := by
        rcases hown'.2 with ⟨h1, _⟩ | ⟨g', cap, cur, hv, hgg, _⟩
        · cases h1
        · cases hv; exact hgg
      intro he
      have hlt := own_lt h.own g (by rw [← he]; rfl)
      omega

/-- one grade more, behind the store -/
theorem ChSt.push {w W W1 : World} {M : Nat} {jc : Array Value} {j : Job} {so : List Int} {b : Option (List Int)} {vs : Value} {a : Option Addr} {n cap : Nat} {c : Int} {x : Int} {g cap' : Nat} {o : Obj} (h : ChSt w M jc j W so b vs a n cap c)
    (hg : (W.alloc o).grownBy W1 vs.ownBlock) (ho : W1.ownsRow (M + 1 + 1 + 1 + 1) 3 1 (.slice (some ⟨g, 0, none⟩) (so.length + 1) cap') (so.length + 1) (so.map (Value.int .i64) ++ [.int .i64 x])) (hat : vs.ownBlock = some g ∨ g = W.heap.size + 1) :
    ChSt w M jc j (W1.setCell ⟨M + 1 + 1, 0, none⟩ (.slice (some ⟨g, 0, none⟩) (so.length + 1) cap')) (so ++ [x]) b (.slice (some ⟨g, 0, none⟩) (so.length + 1) cap') a n cap c := by
  have hM := h.lt
  have hvb : ∀ k, vs.ownBlock = some k → M + 1 + 1 + 1 + 1 ≤ k := fun k hk => (h.own.lt k hk).1
  have hne : ∀ k, k < M + 1 + 1 + 1 + 1 → some k ≠ vs.ownBlock := fun k hk he => by have := hvb k he.symm; omega
  have hB : Below (M + 1 + 1 + 1 + 1) W W1 := below_grown ((Below.refl _ W).alloc h.size o) (h.own.alloc o) hg (by have := h.size; simp; omega)
  refine ⟨(h.job.below hB (by omega)).far (by simp; omega) _, (h.best.below hB (by omega)).far (by simp; omega) _, (h.bvar.below hB (by omega)).far (by simp) _, by simpa using (h.sov.below hB (by omega)).set_ 0 (.slice (some ⟨g, 0, none⟩) (so.length + 1) cap'), (h.nxt.below hB (by omega)).far (by simp) _, ?_, ?_, ?_, ?_, hM, ?_⟩
  · have := own_far (p := ⟨M + 1 + 1, 0, none⟩) ho (by simp) (.slice (some ⟨g, 0, none⟩) (so.length + 1) cap')
    rw [List.length_append, List.map_append]
    exact this
  · exact h.ok.keep fun k => own_far (p := ⟨M + 1 + 1, 0, none⟩) (own_ne_block (k.alloc o) hg h.apart) (by simp) _
  · rcases h.apart with ha | ha
    · exact .inl ha
    · rcases hat with hat | hat
      · right; rw [hat] at ha; exact ha
      · cases hob : (Value.slice a n cap).ownBlock with
        | none => exact .inl rfl
        | some k =>
          right
          have hk : k < W.heap.size := by
            have hok := h.ok
            cases b with
            | none =>
              have : a = none := hok.1
              rw [this] at hob
              cases hob
            | some l => exact own_lt hok.2.2.1 k hob
          intro he
          have : k = g := by simpa [Value.ownBlock] using he
          omega
  · exact (h.low.trans (hB.mono (by omega))).setCell (p := ⟨M + 1 + 1, 0, none⟩) (by simp; omega) _
  · have := hB.size
    have := h.size
    simp
    omega

/-- the last grade taken away -/
theorem ChSt.pop {w W : World} {M : Nat} {jc : Array Value} {j : Job} {so : List Int} {x : Int} {b : Option (List Int)} {g m cap' : Nat} {a : Option Addr} {n cap : Nat} {c : Int} (h : ChSt w M jc j W (so ++ [x]) b (.slice (some ⟨g, 0, none⟩) m cap') a n cap c) :
    ChSt w M jc j (W.setCell ⟨M + 1 + 1, 0, none⟩ (.slice (some ⟨g, 0, none⟩) so.length cap')) so b (.slice (some ⟨g, 0, none⟩) so.length cap') a n cap c := by
  have hown := h.own
  have hM := h.lt
  rw [List.length_append, List.map_append] at hown
  have hm : m = so.length + 1 := by
    rcases hown.2 with ⟨h1, _⟩ | ⟨g', cap, cur, hv, _⟩
    · cases h1
    · cases hv; rfl
  subst hm
  have hp := ownsRow_pop (by simp) hown
  refine ⟨h.job.far (by simp; omega) _, h.best.far (by simp; omega) _, h.bvar.far (by simp) _, by simpa using h.sov.set_ 0 (.slice (some ⟨g, 0, none⟩) so.length cap'), h.nxt.far (by simp) _, own_far (p := ⟨M + 1 + 1, 0, none⟩) hp (by simp) _, h.ok.keep fun k => own_far (p := ⟨M + 1 + 1, 0, none⟩) k (by simp) _, h.apart, h.low.setCell (p := ⟨M + 1 + 1, 0, none⟩) (by simp; omega) _, hM, by have := h.size; simp; omega⟩

end Go.Proofs.Ytbbgbidpglhkfaa
