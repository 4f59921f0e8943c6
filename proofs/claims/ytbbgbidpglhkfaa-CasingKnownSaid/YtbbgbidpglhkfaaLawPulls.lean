/- Plain facts of pulls (the joint seat has not the law CasingPulls). -/
import Derived.Test.YtbbgbidpglhkfaaKit
import Derived.Test.YtbbgbidpglhkfaaChoice
import Derived.Deep.RegionHeld3
import Derived.Deep.AppendLies
import Derived.Deep.DeepCutAuto
import Derived.Deep.RegionLaw
namespace Go.Proofs.Ytbbgbidpglhkfaa
open Go.RowKit Go.Shelf Mpl

theorem pullOf_step {j : Job} {l : List Int} (h : Chosen j l) {i : Nat} (hi : i < l.length) : pullOf j l i = pullOf j l (i + 1) + weightOf j l i ∧ 0 ≤ weightOf j l i := by
  refine ⟨?_, (h.weight hi).1⟩
  unfold pullOf
  rw [show l.length - i = (l.length - (i + 1)) + 1 by omega, sumFrom]
  omega
theorem pullOf_over {j : Job} {l : List Int} (h : Chosen j l) (i : Nat) (hi : i ≤ l.length) : j.Over ≤ pullOf j l i := by
  unfold pullOf
  have := sumFrom_bounds (weightOf j l) i (l.length - i) 1099511627776 (fun k hk hk2 => h.weight (by omega))
  omega
theorem pullOf_top {j : Job} {l : List Int} (h : Chosen j l) (i : Nat) (hi : i ≤ l.length) : pullOf j l i ≤ 6597069766656 := by
  unfold pullOf
  have := sumFrom_bounds (weightOf j l) i (l.length - i) 1099511627776 (fun k hk hk2 => h.weight (by omega))
  have h1 := h.over
  have h2 := h.few
  have h3 := h.same
  have h4 : ((l.length - i : Nat) : Int) ≤ 5 := by omega
  have h5 : ((l.length - i : Nat) : Int) * 1099511627776 ≤ 5 * 1099511627776 := Int.mul_le_mul_of_nonneg_right h4 (by omega)
  omega

theorem isChoice_of {j : Job} {l : List Int} (h1 : checkJob j = 0) (h2 : l.length = j.Ends.length) (h3 : ∀ i, i < l.length → 0 ≤ pick l i ∧ pick l i < j.Grades.length) : isChoice j l = true := by
  simp only [isChoice, Bool.and_eq_true, decide_eq_true_eq, Bool.not_eq_true', List.any_eq_false]
  refine ⟨⟨h1, h2⟩, fun x hx => ?_⟩
  obtain ⟨i, hi, rfl⟩ := List.getElem_of_mem hx
  have := h3 i hi
  rw [pick_get l i hi] at this
  omega
theorem pulls_of {j : Job} {l : List Int} (h : isChoice j l = true) : pullsOf j l = (List.range l.length).map (pullOf j l) := by rw [pullsOf, if_pos h]
theorem pick_pulls {j : Job} {l : List Int} (h : isChoice j l = true) (i : Nat) (hi : i < l.length) : pick (pullsOf j l) i = pullOf j l i := by
  rw [pulls_of h]
  simp [pick, hi]
theorem pulls_len {j : Job} {l : List Int} (h : isChoice j l = true) : (pullsOf j l).length = l.length := by rw [pulls_of h]; simp

/-- grades chosen so far -/
def GradesSo (l : List Int) (n : Nat) : Prop := ∀ i, i < l.length → 0 ≤ pick l i ∧ pick l i < (n : Int)
theorem GradesSo.nil (n : Nat) : GradesSo [] n := fun i hi => absurd hi (by simp)
theorem GradesSo.snoc {l : List Int} {n : Nat} {x : Int} (h : GradesSo l n) (h0 : 0 ≤ x) (h1 : x < (n : Int)) : GradesSo (l ++ [x]) n := fun i hi => by
  rcases Nat.lt_or_ge i l.length with h2 | h2
  · rw [pick_snoc_lt l x i h2]; exact h i h2
  · obtain rfl : i = l.length := by simp at hi; omega
    rw [pick_snoc_last]; exact ⟨h0, h1⟩

theorem info_int : (Try.prog.info? 3).map (fun i => (i.zero, i.size, i.bytes)) = some (some (.int .i64 0), 1, 8) := by kernel_rfl

end Go.Proofs.Ytbbgbidpglhkfaa
