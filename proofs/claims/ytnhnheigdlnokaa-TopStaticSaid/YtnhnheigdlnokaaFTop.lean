/- The plain law of TopStatic: in a hole of one segment and one slug the pressure at a whole height is exact. No Go in sight. -/
import Derived.Test.YtnhnheigdlnokaaFEnclose
namespace Mpl

theorem one_exact {s : Seg} (hs : GoodSeg s) (hl : s.Long ≤ 1048576) (x q : Int) (h0 : 0 ≤ x) (h1 : x ≤ segSize s) (hq : s.Rise * x = q * segSize s) : At (heightOf [s]) x = ⟨q, q⟩ := by
  have hz := seg_size hs
  have hg : GoodHole [s] := ⟨by simp, by simp, fun i hi => by
    have : i = 0 := by simpa using hi
    subst this; simpa [sg] using hs, by simp [longUp, sumFrom, longAt, sg]; omega⟩
  have hr := height_right hg
  rw [At, if_pos hr, heightOf_good hg]
  have hk : heightKnots [s] [s].length = [⟨0, 0⟩, ⟨segSize s, s.Rise⟩] := by
    simp [heightKnots, List.range_succ, sizeUp, riseUp, sumFrom, sizeAt, riseAt, sg]
  rw [hk]
  by_cases hx0 : x = 0
  · subst hx0
    have hq0 : q = 0 := by
      rw [Int.mul_zero] at hq
      rcases Int.mul_eq_zero.1 hq.symm with h | h
      · exact h
      · omega
    subst hq0
    have : before 0 [(⟨0, 0⟩ : Knot), ⟨segSize s, s.Rise⟩] = 0 := by simp [before]
    unfold value
    rw [if_pos this]
    simp [kn]
  · have h01 : (0 : Int) < x := by omega
    have hn : ¬ segSize s < x := by omega
    have : before x [(⟨0, 0⟩ : Knot), ⟨segSize s, s.Rise⟩] = 1 := by simp [before, h01, hn]
    unfold value
    rw [this]
    simp only [Nat.one_ne_zero, if_false, List.length_cons, List.length_nil, Nat.zero_add, Nat.reduceAdd, Nat.reduceEqDiff]
    have k0 : kn [(⟨0, 0⟩ : Knot), ⟨segSize s, s.Rise⟩] (1 - 1) = ⟨0, 0⟩ := rfl
    have k1 : kn [(⟨0, 0⟩ : Knot), ⟨segSize s, s.Rise⟩] 1 = ⟨segSize s, s.Rise⟩ := rfl
    rw [k0, k1]
    simp only [between, Int.sub_zero, Int.zero_add, Int.zero_sub, hq]
    rw [Int.mul_ediv_cancel _ (by omega), ← Int.neg_mul, Int.mul_ediv_cancel _ (by omega), Int.neg_neg]

/-- what TopStatic is about -/
structure Stat (to k area weight z : Int) : Prop where
  t0 : 1 ≤ to
  t1 : to ≤ 100000
  k0 : 1 ≤ k
  k1 : k ≤ 4
  a0 : 1 ≤ area
  a1 : area ≤ 1000
  w0 : 0 ≤ weight
  w1 : weight ≤ 40000
  z0 : 0 ≤ z
  z1 : z ≤ to

theorem stat_seg {to k area weight z : Int} (h : Stat to k area weight z) : GoodSeg ⟨to * k, to, area, 10⟩ ∧ to * k ≤ 400000 ∧ 1 ≤ to * k := by
  obtain ⟨t0, t1, k0, k1, a0, a1, w0, w1, z0, z1⟩ := h
  have m1 := Int.mul_le_mul_of_nonneg_left k1 (show 0 ≤ to by omega)
  have m2 := Int.mul_le_mul_of_nonneg_left k0 (show 0 ≤ to by omega)
  exact ⟨⟨by show 1 ≤ to * k; omega, by show 0 ≤ to; omega, by show to ≤ to * k; omega, a0, by show area ≤ 5000; omega, by show (1 : Int) ≤ 10; omega, by show (10 : Int) ≤ 200; omega⟩, by omega, by omega⟩

theorem stat_col {to k area weight z : Int} (h : Stat to k area weight z) : GoodCol [⟨to * k, to, area, 10⟩] [⟨weight, to * k * area⟩] := by
  obtain ⟨hs, hl, _⟩ := stat_seg h
  have hz := seg_size hs
  refine ⟨⟨by simp, by simp, fun i hi => ?_, by simp [longUp, sumFrom, longAt, sg]; omega⟩, by simp, by simp, fun i hi => ?_, fun i hi => ?_, ?_⟩
  · have : i = 0 := by simpa using hi
    subst this; simpa [sg] using hs
  · have : i = 0 := by simpa using hi
    subst this; exact ⟨h.w0, h.w1⟩
  · have : i = 0 := by simpa using hi
    subst this; exact hz.1
  · simp [heldUp, sizeUp, sumFrom, sizeAt, volAt, sg, slg, segSize]

theorem stat_room {to k area : Int} (ht : 1 ≤ to) : to * k * area / to = k * area := by
  rw [Int.mul_assoc, Int.mul_ediv_cancel_left _ (by omega)]
theorem stat_place {to k area weight z : Int} (h : Stat to k area weight z) : 0 ≤ k * area * (to - z) ∧ k * area * (to - z) ≤ to * k * area ∧ k * area ≤ 4000 ∧ 0 ≤ k * area := by
  obtain ⟨t0, t1, k0, k1, a0, a1, w0, w1, z0, z1⟩ := h
  have m0 : 0 ≤ k * area := Int.mul_nonneg (by omega) (by omega)
  have m1 : k * area ≤ 4 * 1000 := Int.mul_le_mul k1 a1 (by omega) (by omega)
  have m2 := Int.mul_le_mul_of_nonneg_left (show to - z ≤ to by omega) m0
  have e : to * k * area = k * area * to := by rw [Int.mul_assoc, Int.mul_comm]
  exact ⟨Int.mul_nonneg m0 (by omega), by omega, by omega, m0⟩

theorem stat_law {to k area weight z : Int} (h : Stat to k area weight z) (top : Int) :
    pressAt [⟨to * k, to, area, 10⟩] [⟨weight, to * k * area⟩] top (k * area * (to - z)) = ⟨top + weight * z, top + weight * z⟩ := by
  obtain ⟨hs, hl, _⟩ := stat_seg h
  obtain ⟨p0, p1, _, _⟩ := stat_place h
  have e := one_exact hs (by show to * k ≤ _; omega) (k * area * (to - z)) (to - z) p0 p1 (by
    show to * (k * area * (to - z)) = (to - z) * (to * k * area)
    rw [Int.mul_comm (to - z), ← Int.mul_assoc, ← Int.mul_assoc])
  unfold pressAt
  rw [e]
  simp only [List.length_cons, List.length_nil, Nat.zero_add, Nat.sub_self, pressUp, slg, List.getElem?_cons_zero, Option.getD_some, riseUp, sumFrom, riseAt, sg, addR, Int.add_zero]
  rw [Int.min_self, Int.max_self, Int.min_self, Int.max_self, Int.neg_mul, Int.mul_sub]
  congr 1 <;> omega

theorem stat_press {to k area weight z top : Int} (h : Stat to k area weight z) (h0 : 0 ≤ top) (h1 : top ≤ 68719476736) :
    press [⟨to * k, to, area, 10⟩] [⟨weight, to * k * area⟩] top (k * area * (to - z)) = (⟨top + weight * z, top + weight * z⟩, 0) := by
  obtain ⟨p0, p1, _, _⟩ := stat_place h
  unfold press
  rw [if_neg (by simp [(checkColumn_iff _ _).2 (stat_col h)]), if_pos, stat_law h]
  have : sizeUp [(⟨to * k, to, area, 10⟩ : Seg)] 1 = to * k * area := by simp [sizeUp, sumFrom, sizeAt, sg, segSize]
  simp only [List.length_cons, List.length_nil, Nat.zero_add, this, within, Bool.and_eq_true, decide_eq_true_eq]
  omega
end Mpl
