/- Plain laws of what tests have proven. No Go in sight. -/
import Derived.Test.YtannipfohicpmaaRefProven
namespace Go.Proofs.Ytannipfohicpmaa
open Mpl

theorem proven_iff {l : List Test} {need now age : Int} (h1 : l.length ≤ 24) (h2 : 0 ≤ age) : proven l need now age = true ↔ ∃ t ∈ l, t.Held = true ∧ need ≤ t.P ∧ t.Tick ≤ now ∧ now - t.Tick ≤ age ∧ ∀ x ∈ l, x.Held = false → x.Tick < t.Tick ∨ now < x.Tick := by
  rw [proven_eq, if_neg (by omega), List.any_eq_true]
  refine exists_congr fun t => and_congr_right fun _ => ?_
  simp only [provesAt, Bool.and_eq_true, decide_eq_true_eq, and_assoc, Bool.not_eq_true', List.any_eq_false]
  refine and_congr_right fun _ => and_congr_right fun _ => and_congr_right fun _ => and_congr_right fun _ => forall_congr' fun x => imp_congr_right fun _ => ?_
  cases x.Held <;> simp [within]
  omega

theorem proven_less {l : List Test} {need less now age : Int} (h1 : l.length ≤ 24) (h2 : 0 ≤ age) (h3 : 0 ≤ less) (h : proven l need now age = true) : proven l (need - less) now age = true := by
  rw [proven_iff h1 h2] at h ⊢
  obtain ⟨t, ht, a, b, c⟩ := h
  exact ⟨t, ht, a, by omega, c⟩
theorem proven_more {l : List Test} {need now age more : Int} (h1 : l.length ≤ 24) (h2 : 0 ≤ age) (h3 : 0 ≤ more) (h : proven l need now age = true) : proven l need now (age + more) = true := by
  rw [proven_iff h1 h2] at h
  rw [proven_iff h1 (by omega)]
  obtain ⟨t, ht, a, b, c, d, e⟩ := h
  exact ⟨t, ht, a, b, c, by omega, e⟩
theorem proven_bad {l : List Test} {need now age : Int} (h1 : l.length ≤ 20) (h2 : 0 ≤ age) : proven (l ++ [⟨need, false, now⟩]) need now age = false := by
  rw [← Bool.not_eq_true, proven_iff (by simp; omega) h2]
  rintro ⟨t, ht, a, b, c, d, e⟩
  have := e ⟨need, false, now⟩ (by simp) rfl
  simp at this
  omega
theorem proven_good {l : List Test} {need now age : Int} (h1 : l.length ≤ 20) (h2 : 0 ≤ age) (h : ∀ x ∈ l, x.Held = true ∨ x.Tick ≠ now) : proven (l ++ [⟨need, true, now⟩]) need now age = true := by
  rw [proven_iff (by simp; omega) h2]
  refine ⟨⟨need, true, now⟩, by simp, rfl, Int.le_refl _, Int.le_refl _, by simp; omega, fun x hx hh => ?_⟩
  rw [List.mem_append, List.mem_singleton] at hx
  rcases hx with hx | rfl
  · rcases h x hx with h' | h'
    · rw [hh] at h'; cases h'
    · show x.Tick < now ∨ now < x.Tick
      omega
  · cases hh
end Go.Proofs.Ytannipfohicpmaa
