/- Plain laws of the best choice. No Go in sight. -/
import Derived.Test.YtannipfohicpmaaChoose1
import Derived.Test.YtannipfohicpmaaLawPulls
namespace Mpl

/-- all choices that begin with so, with d grades more out of n -/
def ext (n : Nat) : Nat → List Int → List (List Int)
  | 0, so => [so]
  | d + 1, so => (List.range n).flatMap fun (g : Nat) => ext n d (so ++ [(g : Int)])

theorem fold_flat {α β γ : Type} (f : γ → β → γ) (g : α → List β) (l : List α) (b : γ) : (l.flatMap g).foldl f b = l.foldl (fun b a => (g a).foldl f b) b := by
  induction l generalizing b with
  | nil => rfl
  | cons a l ih => rw [List.flatMap_cons, List.foldl_append, List.foldl_cons, ih]

theorem explore_ext (j : Job) (d : Nat) (so : List Int) (b : Option (List Int)) : explore j d so b = (ext j.Grades.length d so).foldl (better j) b := by
  induction d generalizing so b with
  | zero => rfl
  | succ d ih =>
    rw [explore, ext, fold_flat]
    congr 1
    funext b g
    exact ih _ _

theorem mem_ext (n d : Nat) (so l : List Int) : l ∈ ext n d so ↔ ∃ t : List Int, l = so ++ t ∧ t.length = d ∧ ∀ x ∈ t, 0 ≤ x ∧ x < (n : Int) := by
  induction d generalizing so with
  | zero =>
    simp only [ext, List.mem_singleton]
    constructor
    · rintro rfl; exact ⟨[], by simp, rfl, by simp⟩
    · rintro ⟨t, rfl, h, _⟩
      have : t = [] := List.eq_nil_of_length_eq_zero h
      simp [this]
  | succ d ih =>
    simp only [ext, List.mem_flatMap, List.mem_range, ih]
    constructor
    · rintro ⟨g, hg, t, rfl, ht, hx⟩
      refine ⟨(g : Int) :: t, by simp, by simp [ht], fun x hx' => ?_⟩
      rcases List.mem_cons.1 hx' with rfl | h
      · omega
      · exact hx x h
    · rintro ⟨t, rfl, ht, hx⟩
      cases t with
      | nil => simp at ht
      | cons y t =>
        have hy := hx y (by simp)
        refine ⟨y.toNat, by omega, t, ?_, by simpa using ht, fun x h => hx x (by simp [h])⟩
        rw [show ((y.toNat : Nat) : Int) = y by omega]
        simp

def Bear (j : Job) (l : List Int) : Prop := (bearsFrom j l 0 l.length).1 < 0

theorem better_none {j : Job} {a : List Int} (hb : Bear j a) : better j none a = some a := by unfold better; exact if_pos hb
theorem better_some {j : Job} {a k : List Int} (hb : Bear j a) : better j (some k) a = if sumCost j a < sumCost j k then some a else some k := by unfold better; exact if_pos hb
theorem better_not {j : Job} {b : Option (List Int)} {a : List Int} (hb : ¬ Bear j a) : better j b a = b := by unfold better; exact if_neg hb

/-- r is the best of what was had before and of a list -/
def BestOf (j : Job) (L : List (List Int)) (b r : Option (List Int)) : Prop :=
  (r = none → b = none ∧ ∀ l ∈ L, ¬ Bear j l) ∧
  ∀ x, r = some x → (b = some x ∨ (x ∈ L ∧ Bear j x)) ∧ (∀ k, b = some k → sumCost j x ≤ sumCost j k) ∧ ∀ l ∈ L, Bear j l → sumCost j x ≤ sumCost j l

theorem fold_best (j : Job) (L : List (List Int)) (b : Option (List Int)) : BestOf j L b (L.foldl (better j) b) := by
  induction L generalizing b with
  | nil =>
    refine ⟨fun h => ⟨h, by simp⟩, fun x h => ⟨.inl h, fun k hk => ?_, by simp⟩⟩
    have h' : b = some x := h
    rw [h'] at hk
    cases hk
    omega
  | cons a L ih =>
    rw [List.foldl_cons]
    have h := ih (better j b a)
    generalize L.foldl (better j) (better j b a) = r at *
    by_cases hb : Bear j a
    · cases b with
      | none =>
        rw [better_none hb] at h
        refine ⟨fun hr => ?_, fun x hx => ?_⟩
        · have := (h.1 hr).1; cases this
        · obtain ⟨h1, h2, h3⟩ := h.2 x hx
          refine ⟨.inr ?_, (fun k hk => by cases hk), fun l hl hB => ?_⟩
          · rcases h1 with h1 | ⟨h1, h1'⟩
            · cases h1; exact ⟨by simp, hb⟩
            · exact ⟨by simp [h1], h1'⟩
          · rcases List.mem_cons.1 hl with rfl | hl
            · exact h2 _ rfl
            · exact h3 l hl hB
      | some k =>
        rw [better_some hb] at h
        by_cases hc : sumCost j a < sumCost j k
        · rw [if_pos hc] at h
          refine ⟨fun hr => ?_, fun x hx => ?_⟩
          · have := (h.1 hr).1; cases this
          · obtain ⟨h1, h2, h3⟩ := h.2 x hx
            have h4 := h2 a rfl
            refine ⟨.inr ?_, fun k' hk => ?_, fun l hl hB => ?_⟩
            · rcases h1 with h1 | ⟨h1, h1'⟩
              · cases h1; exact ⟨by simp, hb⟩
              · exact ⟨by simp [h1], h1'⟩
            · cases hk; omega
            · rcases List.mem_cons.1 hl with rfl | hl
              · exact h4
              · exact h3 l hl hB
        · rw [if_neg hc] at h
          refine ⟨fun hr => ?_, fun x hx => ?_⟩
          · have := (h.1 hr).1; cases this
          · obtain ⟨h1, h2, h3⟩ := h.2 x hx
            have h4 := h2 k rfl
            refine ⟨?_, fun k' hk => ?_, fun l hl hB => ?_⟩
            · rcases h1 with h1 | ⟨h1, h1'⟩
              · exact .inl h1
              · exact .inr ⟨by simp [h1], h1'⟩
            · cases hk; exact h4
            · rcases List.mem_cons.1 hl with rfl | hl
              · omega
              · exact h3 l hl hB
    · rw [better_not hb] at h
      refine ⟨fun hr => ⟨(h.1 hr).1, fun l hl => ?_⟩, fun x hx => ?_⟩
      · rcases List.mem_cons.1 hl with rfl | hl
        · exact hb
        · exact (h.1 hr).2 l hl
      · obtain ⟨h1, h2, h3⟩ := h.2 x hx
        refine ⟨?_, h2, fun l hl hB => ?_⟩
        · rcases h1 with h1 | ⟨h1, h1'⟩
          · exact .inl h1
          · exact .inr ⟨by simp [h1], h1'⟩
        · rcases List.mem_cons.1 hl with rfl | hl
          · exact absurd hB hb
          · exact h3 l hl hB

theorem isChoice_iff {j : Job} {l : List Int} (h : checkJob j = 0) : isChoice j l = true ↔ l ∈ ext j.Grades.length j.Ends.length [] := by
  rw [mem_ext]
  simp only [isChoice, Bool.and_eq_true, decide_eq_true_eq, Bool.not_eq_true', List.any_eq_false, List.nil_append]
  constructor
  · rintro ⟨⟨_, h2⟩, h3⟩
    exact ⟨l, rfl, h2, fun x hx => by have := h3 x hx; omega⟩
  · rintro ⟨t, rfl, h2, h3⟩
    exact ⟨⟨h, h2⟩, fun x hx => by have := h3 x hx; omega⟩

theorem choose_none {j : Job} (h : checkJob j = 0) (hc : chooseOf j = none) (l : List Int) (hl : isChoice j l = true) : ¬ Bear j l := by
  rw [chooseOf, if_pos h, explore_ext] at hc
  exact ((fold_best j (ext j.Grades.length j.Ends.length []) none).1 hc).2 l ((isChoice_iff h).1 hl)
theorem choose_some {j : Job} {r : List Int} (h : checkJob j = 0) (hc : chooseOf j = some r) : isChoice j r = true ∧ Bear j r ∧ ∀ l, isChoice j l = true → Bear j l → sumCost j r ≤ sumCost j l := by
  rw [chooseOf, if_pos h, explore_ext] at hc
  obtain ⟨h1, _, h3⟩ := (fold_best j (ext j.Grades.length j.Ends.length []) none).2 r hc
  rcases h1 with h1 | ⟨h1, h2⟩
  · cases h1
  · exact ⟨(isChoice_iff h).2 h1, h2, fun l hl hB => h3 l ((isChoice_iff h).1 hl) hB⟩
theorem choose_bad {j : Job} (h : checkJob j ≠ 0) : chooseOf j = none := by rw [chooseOf, if_neg h]

theorem why_range (j : Job) (lo hi : Int) (g : Grade) (p : Int) : 0 ≤ why j lo hi g p ∧ why j lo hi g p ≤ 3 := by
  unfold why
  split
  · omega
  · split
    · omega
    · split <;> omega

theorem bears_shape (j : Job) (l : List Int) (i n : Nat) : (bearsFrom j l i n = (-1, 0) ∧ ∀ t, i ≤ t → t < i + n → whyAt j l t = 0) ∨ ∃ k : Nat, i ≤ k ∧ k < i + n ∧ whyAt j l k ≠ 0 ∧ bearsFrom j l i n = ((k : Int), whyAt j l k) := by
  induction n generalizing i with
  | zero => exact .inl ⟨rfl, fun t h1 h2 => by omega⟩
  | succ n ih =>
    rw [bearsFrom]
    by_cases h : whyAt j l i ≠ 0
    · rw [if_pos h]
      exact .inr ⟨i, Nat.le_refl _, by omega, h, rfl⟩
    · rw [if_neg h]
      rcases ih (i + 1) with ⟨h1, h2⟩ | ⟨k, h1, h2, h3, h4⟩
      · refine .inl ⟨h1, fun t ht1 ht2 => ?_⟩
        by_cases e : t = i
        · subst e; simpa using h
        · exact h2 t (by omega) (by omega)
      · exact .inr ⟨k, by omega, by omega, h3, h4⟩

theorem bear_iff (j : Job) (l : List Int) : Bear j l ↔ bearsFrom j l 0 l.length = (-1, 0) := by
  unfold Bear
  rcases bears_shape j l 0 l.length with ⟨h, _⟩ | ⟨k, _, _, _, h⟩ <;> rw [h] <;> simp

end Mpl
