/- The plain law of FluidEncloses: in a hole of one segment the pressure lies in its enclosure. No Go in sight. -/
import Derived.Test.YtnhnheigdlnokaaFMono
namespace Mpl

/-- what is above u of the first k slugs, by weight -/
def aboveAt (l : List Slug) (u : Int) (i : Nat) : Int := (slg l i).Weight * max 0 (min (slg l i).Volume (heldUp l (i + 1) - u))
def aboveUp (l : List Slug) (u : Int) (k : Nat) : Int := sumFrom (aboveAt l u) 0 k
theorem aboveUp_step (l : List Slug) (u : Int) (k : Nat) : aboveUp l u (k + 1) = aboveUp l u k + aboveAt l u k := up_step _ k

/-- an enclosure of a number E / v -/
def Enc (v : Int) (p : Rng) (E : Int) : Prop := p.Lo * v ≤ E ∧ E ≤ p.Hi * v
theorem Enc.add {v : Int} {p h : Rng} {E X w : Int} (hp : Enc v p E) (hh : Enc v h X) (hv : 0 ≤ v) : Enc v (addR p w h) (E + w * X) := by
  obtain ⟨p1, p2⟩ := hp
  obtain ⟨h1, h2⟩ := hh
  simp only [addR, Enc]
  have e1 : w * (h.Lo * v) = w * h.Lo * v := (Int.mul_assoc _ _ _).symm
  have e2 : w * (h.Hi * v) = w * h.Hi * v := (Int.mul_assoc _ _ _).symm
  have m1 : min (w * h.Lo) (w * h.Hi) * v ≤ w * h.Lo * v := Int.mul_le_mul_of_nonneg_right (by omega) hv
  have m2 : min (w * h.Lo) (w * h.Hi) * v ≤ w * h.Hi * v := Int.mul_le_mul_of_nonneg_right (by omega) hv
  have m3 : w * h.Lo * v ≤ max (w * h.Lo) (w * h.Hi) * v := Int.mul_le_mul_of_nonneg_right (by omega) hv
  have m4 : w * h.Hi * v ≤ max (w * h.Lo) (w * h.Hi) * v := Int.mul_le_mul_of_nonneg_right (by omega) hv
  rw [Int.add_mul, Int.add_mul]
  rcases Int.le_total 0 w with hw | hw
  · have a1 := Int.mul_le_mul_of_nonneg_left h1 hw
    have a2 := Int.mul_le_mul_of_nonneg_left h2 hw
    omega
  · have a1 := Int.mul_le_mul_of_nonneg_left h1 (show 0 ≤ -w by omega)
    have a2 := Int.mul_le_mul_of_nonneg_left h2 (show 0 ≤ -w by omega)
    rw [Int.neg_mul, Int.neg_mul] at a1 a2
    omega

/-- the height at a place of a hole of one segment -/
theorem one_at {s : Seg} (hs : GoodSeg s) (hl : s.Long ≤ 1048576) (x : Int) (h0 : 0 ≤ x) (h1 : x ≤ segSize s) : Enc (segSize s) (At (heightOf [s]) x) (s.Rise * x) ∧ (s.Rise = 0 ∨ s.Rise = segSize s → (At (heightOf [s]) x).Lo = (At (heightOf [s]) x).Hi) := by
  have hz := seg_size hs
  have hg : GoodHole [s] := ⟨by simp, by simp, fun i hi => by
    have : i = 0 := by simpa using hi
    subst this; simpa [sg] using hs, by simp [longUp, sumFrom, longAt, sg]; omega⟩
  have hr := height_right hg
  rw [At, if_pos hr, heightOf_good hg]
  have hk : heightKnots [s] [s].length = [⟨0, 0⟩, ⟨segSize s, s.Rise⟩] := by
    simp [heightKnots, List.range_succ, sizeUp, riseUp, sumFrom, sizeAt, riseAt, sg]
  rw [hk]
  by_cases hx0 : x = 0
  · subst hx0
    have : before 0 [(⟨0, 0⟩ : Knot), ⟨segSize s, s.Rise⟩] = 0 := by simp [before]
    unfold value
    rw [if_pos this]
    simp [Enc, kn]
  · have h01 : (0 : Int) < x := by omega
    have hn : ¬ segSize s < x := by omega
    have : before x [(⟨0, 0⟩ : Knot), ⟨segSize s, s.Rise⟩] = 1 := by simp [before, h01, hn]
    unfold value
    rw [this]
    simp only [Nat.one_ne_zero, if_false, List.length_cons, List.length_nil, Nat.zero_add, Nat.reduceAdd, Nat.reduceEqDiff]
    have k0 : kn [(⟨0, 0⟩ : Knot), ⟨segSize s, s.Rise⟩] (1 - 1) = ⟨0, 0⟩ := rfl
    have k1 : kn [(⟨0, 0⟩ : Knot), ⟨segSize s, s.Rise⟩] 1 = ⟨segSize s, s.Rise⟩ := rfl
    rw [k0, k1]
    simp only [between, Enc, Int.sub_zero, Int.zero_add, Int.zero_sub]
    have e1 := Int.mul_ediv_add_emod (s.Rise * x) (segSize s)
    have e2 := Int.emod_nonneg (s.Rise * x) (show segSize s ≠ 0 by omega)
    have f1 := Int.mul_ediv_add_emod (-(s.Rise * x)) (segSize s)
    have f2 := Int.emod_nonneg (-(s.Rise * x)) (show segSize s ≠ 0 by omega)
    have c1 := Int.mul_comm (s.Rise * x / segSize s) (segSize s)
    have c2 := Int.mul_comm (-(s.Rise * x) / segSize s) (segSize s)
    refine ⟨⟨by omega, by rw [Int.neg_mul (-(s.Rise * x) / segSize s)]; omega⟩, fun h => ?_⟩
    clear e1 e2 f1 f2 c1 c2
    rcases h with h | h
    · rw [h]; simp
    · rw [h, ← Int.mul_neg, Int.mul_ediv_cancel_left _ (by omega), Int.mul_ediv_cancel_left _ (by omega)]
      omega

/-- the pressure, exactly, times the volume, behind k slugs -/
def exactUp (l : List Slug) (R v top u : Int) (k : Nat) : Int :=
  top * v + R * ((slg l (l.length - 1)).Weight * v + sumFrom (fun i => if u < heldUp l (i + 1) then ((slg l i).Weight - (slg l (i + 1)).Weight) * heldUp l (i + 1) else 0) 0 k)

theorem enc_up {s : Seg} {l : List Slug} (hs : GoodSeg s) (hl : s.Long ≤ 1048576) (g : GoodCol [s] l) (top u : Int) (k : Nat) (hk : k < l.length) :
    Enc (segSize s) (pressUp [s] l top u k).2 (exactUp l s.Rise (segSize s) top u k) ∧ (s.Rise = 0 ∨ s.Rise = segSize s → (pressUp [s] l top u k).2.Lo = (pressUp [s] l top u k).2.Hi) := by
  have hz := seg_size hs
  have hv : sizeUp [s] [s].length = segSize s := by simp [sizeUp, sumFrom, sizeAt, sg]
  have hR : riseUp [s] [s].length = s.Rise := by simp [riseUp, sumFrom, riseAt, sg]
  induction k with
  | zero =>
    simp only [pressUp, hR]
    have h1 : Enc (segSize s) ⟨top, top⟩ (top * segSize s) := ⟨Int.le_refl _, Int.le_refl _⟩
    have h2 : Enc (segSize s) ⟨s.Rise, s.Rise⟩ (s.Rise * segSize s) := ⟨Int.le_refl _, Int.le_refl _⟩
    have h3 := h1.add h2 (w := (slg l (l.length - 1)).Weight) (by omega)
    have e : exactUp l s.Rise (segSize s) top u 0 = top * segSize s + (slg l (l.length - 1)).Weight * (s.Rise * segSize s) := by
      simp only [exactUp, sumFrom, Int.add_zero]
      rw [← Int.mul_assoc, ← Int.mul_assoc, Int.mul_comm s.Rise]
    rw [e]
    exact ⟨h3, fun _ => by simp [addR]⟩
  | succ k ih =>
    have ih := ih (by omega)
    have hst : exactUp l s.Rise (segSize s) top u (k + 1) = exactUp l s.Rise (segSize s) top u k + s.Rise * (if u < heldUp l (k + 1) then ((slg l k).Weight - (slg l (k + 1)).Weight) * heldUp l (k + 1) else 0) := by
      simp only [exactUp, up_step]
      rw [← Int.add_assoc, Int.mul_add, Int.add_assoc]
    rw [hst, pressUp]
    by_cases hu : u < heldUp l (k + 1)
    · rw [if_pos hu, if_pos hu]
      have h1 := g.held (k + 1) l.length (by omega) (Nat.le_refl _)
      rw [g.full, hv] at h1
      have ha := one_at hs hl (heldUp l (k + 1)) h1.1 (by omega)
      have h3 := ih.1.add ha.1 (w := (slg l k).Weight - (slg l (k + 1)).Weight) (by omega)
      refine ⟨?_, fun h => ?_⟩
      · rw [show s.Rise * (((slg l k).Weight - (slg l (k + 1)).Weight) * heldUp l (k + 1)) = ((slg l k).Weight - (slg l (k + 1)).Weight) * (s.Rise * heldUp l (k + 1)) by rw [← Int.mul_assoc, ← Int.mul_assoc, Int.mul_comm s.Rise]]
        exact h3
      · simp only [addR]
        rw [ih.2 h, ha.2 h]
        omega
    · rw [if_neg hu, if_neg hu, Int.mul_zero, Int.add_zero]
      exact ih

/-- where the place lies, and what is above it -/
theorem above_up (h : List Seg) {l : List Slug} (g : GoodCol h l) (top u : Int) (h0 : 0 ≤ u) (k : Nat) (hk : k < l.length) :
    (¬ u < heldUp l k ∧ (pressUp h l top u k).1 = l.length - 1 ∧ aboveUp l u k = 0 ∧ sumFrom (fun i => if u < heldUp l (i + 1) then ((slg l i).Weight - (slg l (i + 1)).Weight) * heldUp l (i + 1) else 0) 0 k = 0) ∨
    (u < heldUp l k ∧ (pressUp h l top u k).1 < k ∧ sumFrom (fun i => if u < heldUp l (i + 1) then ((slg l i).Weight - (slg l (i + 1)).Weight) * heldUp l (i + 1) else 0) 0 k = aboveUp l u k + (slg l (pressUp h l top u k).1).Weight * u - (slg l k).Weight * heldUp l k) := by
  induction k with
  | zero => left; simp [heldUp, sumFrom, pressUp, aboveUp]; omega
  | succ k ih =>
    have hm := (g.held k (k + 1) (by omega) (by omega)).2
    have hst := heldUp_step l k
    rw [up_step, aboveUp_step, pressUp]
    rcases ih (by omega) with ⟨i1, i2, i3, i4⟩ | ⟨i1, i2, i3⟩
    · by_cases hu : u < heldUp l (k + 1)
      · right
        rw [if_pos hu, if_pos hu, i2, i3, i4]
        refine ⟨hu, by simp only; omega, ?_⟩
        simp only [aboveAt]
        rw [show min (l.length - 1) k = k by omega]
        rw [show max 0 (min (slg l k).Volume (heldUp l (k + 1) - u)) = heldUp l (k + 1) - u by omega]
        rw [Int.sub_mul, Int.mul_sub]
        omega
      · left
        rw [if_neg hu, if_neg hu, i3, i4]
        refine ⟨hu, i2, ?_, rfl⟩
        simp only [aboveAt]
        rw [show max 0 (min (slg l k).Volume (heldUp l (k + 1) - u)) = 0 by omega]
        simp
    · right
      have hu : u < heldUp l (k + 1) := by omega
      rw [if_pos hu, if_pos hu, i3]
      refine ⟨hu, by simp only; omega, ?_⟩
      simp only [aboveAt]
      rw [show min (pressUp h l top u k).1 k = (pressUp h l top u k).1 by omega]
      rw [show max 0 (min (slg l k).Volume (heldUp l (k + 1) - u)) = heldUp l (k + 1) - heldUp l k by omega]
      rw [Int.sub_mul, Int.mul_sub]
      omega

theorem encloses {s : Seg} {l : List Slug} (hs : GoodSeg s) (hl : s.Long ≤ 1048576) (g : GoodCol [s] l) (top u : Int) (h0 : 0 ≤ u) (h1 : u ≤ segSize s) :
    Enc (segSize s) (pressAt [s] l top u) (top * segSize s + aboveUp l u l.length * s.Rise) ∧ (s.Rise = 0 ∨ s.Rise = segSize s → (pressAt [s] l top u).Lo = (pressAt [s] l top u).Hi) := by
  have hz := seg_size hs
  have hp := g.pos
  have hv : sizeUp [s] [s].length = segSize s := by simp [sizeUp, sumFrom, sizeAt, sg]
  have hfull := g.full
  rw [hv] at hfull
  have e := enc_up hs hl g top u (l.length - 1) (by omega)
  have a := one_at hs hl u h0 h1
  have ha := e.1.add a.1 (w := -(slg l (pressUp [s] l top u (l.length - 1)).1).Weight) (by omega)
  refine ⟨?_, fun h => ?_⟩
  · have key : exactUp l s.Rise (segSize s) top u (l.length - 1) + -(slg l (pressUp [s] l top u (l.length - 1)).1).Weight * (s.Rise * u) = top * segSize s + aboveUp l u l.length * s.Rise := by
      have hst : aboveUp l u l.length = aboveUp l u (l.length - 1) + aboveAt l u (l.length - 1) := by
        have := aboveUp_step l u (l.length - 1)
        rwa [show l.length - 1 + 1 = l.length by omega] at this
      have hh := heldUp_step l (l.length - 1)
      have hv1 := g.v1 (l.length - 1) (by omega)
      rw [show l.length - 1 + 1 = l.length by omega, hfull] at hh
      have hab : aboveAt l u (l.length - 1) = (slg l (l.length - 1)).Weight * max 0 (min (slg l (l.length - 1)).Volume (segSize s - u)) := by
        simp only [aboveAt]
        rw [show l.length - 1 + 1 = l.length by omega, hfull]
      have hmain : (slg l (l.length - 1)).Weight * segSize s + sumFrom (fun i => if u < heldUp l (i + 1) then ((slg l i).Weight - (slg l (i + 1)).Weight) * heldUp l (i + 1) else 0) 0 (l.length - 1) - (slg l (pressUp [s] l top u (l.length - 1)).1).Weight * u = aboveUp l u l.length := by
        rw [hst, hab]
        rcases above_up [s] g top u h0 (l.length - 1) (by omega) with ⟨i1, i2, i3, i4⟩ | ⟨i1, i2, i3⟩
        · rw [i2, i3, i4]
          rw [show max 0 (min (slg l (l.length - 1)).Volume (segSize s - u)) = segSize s - u by omega]
          rw [Int.mul_sub]
          omega
        · rw [i3]
          rw [show max 0 (min (slg l (l.length - 1)).Volume (segSize s - u)) = segSize s - heldUp l (l.length - 1) by omega]
          rw [Int.mul_sub]
          omega
      rw [← hmain]
      simp only [exactUp]
      generalize sumFrom (fun i => if u < heldUp l (i + 1) then ((slg l i).Weight - (slg l (i + 1)).Weight) * heldUp l (i + 1) else 0) 0 (l.length - 1) = S
      generalize (slg l (pressUp [s] l top u (l.length - 1)).1).Weight = W
      generalize (slg l (l.length - 1)).Weight * segSize s = P
      rw [Int.sub_mul, Int.mul_comm (P + S) s.Rise, Int.neg_mul]
      rw [show W * u * s.Rise = W * (s.Rise * u) by rw [Int.mul_assoc, Int.mul_comm u]]
      omega
    rw [← key]
    exact ha
  · unfold pressAt
    simp only [addR]
    rw [e.2 h, a.2 h]
    omega

end Mpl
