/- Plain laws of lines: what a right line is, and its value at a place. No Go in sight. -/
import Derived.Test.YtannipfohicpmaaSpec
namespace Mpl

/-- a line whose numbers may be -/
structure GoodLine (ks : List Knot) (a v : Int) : Prop where
  pos : 0 < ks.length
  few : ks.length ≤ 24
  at0 : ∀ i, i < ks.length → 0 ≤ (kn ks i).At ∧ (kn ks i).At ≤ a
  v0 : ∀ i, i < ks.length → 0 ≤ (kn ks i).V ∧ (kn ks i).V ≤ v
  up : ∀ i, i + 1 < ks.length → (kn ks i).At < (kn ks (i + 1)).At

theorem kn_succ (k : Knot) (ks : List Knot) (i : Nat) : kn (k :: ks) (i + 1) = kn ks i := by simp [kn]
theorem kn_zero (k : Knot) (ks : List Knot) : kn (k :: ks) 0 = k := by simp [kn]

theorem checkKnots_iff (a v : Int) (ks : List Knot) : ∀ last, checkKnots a v last ks = 0 ↔
    (∀ i, i < ks.length → (0 ≤ (kn ks i).At ∧ (kn ks i).At ≤ a) ∧ (0 ≤ (kn ks i).V ∧ (kn ks i).V ≤ v)) ∧ (0 < ks.length → last < (kn ks 0).At) ∧ (∀ i, i + 1 < ks.length → (kn ks i).At < (kn ks (i + 1)).At) := by
  induction ks with
  | nil => intro last; simp [checkKnots]
  | cons k ks ih =>
    intro last
    rw [checkKnots]
    by_cases h : (within k.At 0 a && within k.V 0 v) = true
    · rw [if_pos h]
      simp only [within, Bool.and_eq_true, decide_eq_true_eq] at h
      by_cases hl : k.At ≤ last
      · rw [if_pos hl]
        constructor
        · intro h'; omega
        · rintro ⟨_, h2, _⟩
          have := h2 (by simp)
          rw [kn_zero] at this
          omega
      · rw [if_neg hl, ih]
        constructor
        · rintro ⟨h1, h2, h3⟩
          refine ⟨?_, ?_, ?_⟩
          · intro i hi
            cases i with
            | zero => rw [kn_zero]; exact h
            | succ i => rw [kn_succ]; exact h1 i (by simpa using hi)
          · intro _; rw [kn_zero]; omega
          · intro i hi
            cases i with
            | zero => rw [kn_zero, kn_succ]; exact h2 (by simpa using hi)
            | succ i => rw [kn_succ, kn_succ]; exact h3 i (by simpa using hi)
        · rintro ⟨h1, h2, h3⟩
          refine ⟨?_, ?_, ?_⟩
          · intro i hi
            have := h1 (i + 1) (by simpa using hi)
            rwa [kn_succ] at this
          · intro hp
            have := h3 0 (by simpa using hp)
            rwa [kn_zero, kn_succ] at this
          · intro i hi
            have := h3 (i + 1) (by simpa using hi)
            rwa [kn_succ, kn_succ] at this
    · rw [if_neg h]
      constructor
      · intro h'; omega
      · rintro ⟨h1, _, _⟩
        have := h1 0 (by simp)
        rw [kn_zero] at this
        exact absurd (by simp [within]; omega) h

theorem checkLine_good {ks : List Knot} {a v : Int} (h : checkLine ks a v = 0) : GoodLine ks a v ∧ 0 ≤ a ∧ a ≤ 1099511627776 ∧ 0 ≤ v ∧ v ≤ 68719476736 := by
  unfold checkLine at h
  split at h
  · omega
  · rename_i h0
    simp [within] at h0
    split at h
    · omega
    · split at h
      · omega
      · obtain ⟨h1, _, h3⟩ := (checkKnots_iff a v ks (-1)).1 h
        exact ⟨⟨by omega, by omega, fun i hi => (h1 i hi).1, fun i hi => (h1 i hi).2, h3⟩, by omega⟩

theorem good_checkLine {ks : List Knot} {a v : Int} (h : GoodLine ks a v) (ha : 0 ≤ a) (ha2 : a ≤ 1099511627776) (hv : 0 ≤ v) (hv2 : v ≤ 68719476736) : checkLine ks a v = 0 := by
  unfold checkLine
  rw [if_neg (by simp [within]; omega), if_neg (by have := h.pos; omega), if_neg (by have := h.few; omega)]
  rw [checkKnots_iff]
  exact ⟨fun i hi => ⟨h.at0 i hi, h.v0 i hi⟩, fun hp => by have := (h.at0 0 hp).1; omega, h.up⟩

theorem GoodLine.lt {ks : List Knot} {a v : Int} (h : GoodLine ks a v) {i j : Nat} (hij : i < j) (hj : j < ks.length) : (kn ks i).At < (kn ks j).At := by
  induction j with
  | zero => omega
  | succ j ih =>
    by_cases e : i = j
    · subst e; exact h.up i hj
    · have := ih (by omega) (by omega)
      have := h.up j hj
      omega

theorem before_le (x : Int) (ks : List Knot) : before x ks ≤ ks.length := by
  induction ks with
  | nil => simp [before]
  | cons k ks ih => simp only [before, List.length_cons]; split <;> omega

theorem before_lt (x : Int) (ks : List Knot) : ∀ i, i < before x ks → (kn ks i).At < x := by
  induction ks with
  | nil => intro i hi; simp [before] at hi
  | cons k ks ih =>
    intro i hi
    rw [before] at hi
    split at hi
    · cases i with
      | zero => rw [kn_zero]; assumption
      | succ i => rw [kn_succ]; exact ih i (by omega)
    · omega

theorem before_ge (x : Int) (ks : List Knot) (h : before x ks < ks.length) : x ≤ (kn ks (before x ks)).At := by
  induction ks with
  | nil => simp at h
  | cons k ks ih =>
    rw [before] at h ⊢
    split
    · rename_i hk
      rw [if_pos hk] at h
      rw [kn_succ]
      exact ih (by simpa using h)
    · rw [kn_zero]; omega

theorem before_iff {ks : List Knot} {a v : Int} (h : GoodLine ks a v) (x : Int) : ∀ i, i < ks.length → ((kn ks i).At < x ↔ i < before x ks) := by
  intro i hi
  constructor
  · intro hx
    rcases Nat.lt_or_ge i (before x ks) with hl | hl
    · exact hl
    · have hb := before_ge x ks (by omega)
      by_cases e : before x ks = i
      · rw [e] at hb; omega
      · have := h.lt (show before x ks < i by omega) hi
        omega
  · exact before_lt x ks i

theorem right_good {ks : List Knot} (h : right ks = true) : ∃ a v, GoodLine ks a v ∧ 0 ≤ a ∧ 0 ≤ v ∧ ((a = 1048576 ∧ v = 68719476736) ∨ (a = 1099511627776 ∧ v = 1048576)) := by
  simp only [right, Bool.or_eq_true, decide_eq_true_eq] at h
  rcases h with h | h
  · exact ⟨_, _, (checkLine_good h).1, by omega, by omega, .inl ⟨rfl, rfl⟩⟩
  · exact ⟨_, _, (checkLine_good h).1, by omega, by omega, .inr ⟨rfl, rfl⟩⟩

/-- the product that is divided stays small -/
theorem prod_small (y x a v : Int) (h1 : -v ≤ y) (h2 : y ≤ v) (h3 : 0 ≤ x) (h4 : x ≤ a) (hc : (a = 1048576 ∧ v = 68719476736) ∨ (a = 1099511627776 ∧ v = 1048576)) :
    -4611686018427387904 ≤ y * x ∧ y * x ≤ 4611686018427387904 := by
  have hv : 0 ≤ v := by omega
  have a1 : y * x ≤ v * x := Int.mul_le_mul_of_nonneg_right h2 h3
  have a2 : -v * x ≤ y * x := Int.mul_le_mul_of_nonneg_right h1 h3
  have a3 : v * x ≤ v * a := Int.mul_le_mul_of_nonneg_left h4 hv
  rw [Int.neg_mul] at a2
  rcases hc with ⟨rfl, rfl⟩ | ⟨rfl, rfl⟩ <;> omega

/-- rounded up by the rest, or by the division of the negated number -/
theorem ceil_eq (N d : Int) (hd : 0 < d) : N / d + min (N % d) 1 = -((-N) / d) := by
  have e1 := Int.mul_ediv_add_emod N d
  have e2 := Int.emod_nonneg N (show d ≠ 0 by omega)
  have e3 := Int.emod_lt_of_pos N hd
  by_cases h : N % d = 0
  · have : (-N) / d = -(N / d) := by
      rw [show -N = -(N / d) * d by rw [Int.neg_mul, Int.mul_comm]; omega]
      exact Int.mul_ediv_cancel _ (by omega)
    rw [this, h]; omega
  · have : (-N) / d = -(N / d) - 1 := by
      have e : -N = (d - N % d) + (-(N / d) - 1) * d := by
        rw [Int.sub_mul, Int.neg_mul, Int.mul_comm (N / d) d]; omega
      rw [e, Int.add_mul_ediv_right _ _ (by omega), Int.ediv_eq_zero_of_lt (by omega) (by omega)]
      omega
    rw [this]
    omega

theorem between_bounds (a b : Knot) (x v : Int) (h1 : a.At < b.At) (h2 : a.At ≤ x) (h3 : x ≤ b.At) (ha : 0 ≤ a.V) (ha2 : a.V ≤ v) (hb : 0 ≤ b.V) (hb2 : b.V ≤ v) :
    0 ≤ (between a b x).Lo ∧ (between a b x).Lo ≤ (between a b x).Hi ∧ (between a b x).Hi ≤ v := by
  have hd : 0 < b.At - a.At := by omega
  have hx : 0 ≤ x - a.At := by omega
  have hx2 : x - a.At ≤ b.At - a.At := by omega
  have p1 : -a.V * (x - a.At) ≤ (b.V - a.V) * (x - a.At) := Int.mul_le_mul_of_nonneg_right (by omega) hx
  have p2 : (b.V - a.V) * (x - a.At) ≤ (v - a.V) * (x - a.At) := Int.mul_le_mul_of_nonneg_right (by omega) hx
  have p3 : a.V * (x - a.At) ≤ a.V * (b.At - a.At) := Int.mul_le_mul_of_nonneg_left hx2 ha
  have p4 : (v - a.V) * (x - a.At) ≤ (v - a.V) * (b.At - a.At) := Int.mul_le_mul_of_nonneg_left hx2 (by omega)
  rw [Int.neg_mul] at p1
  have hc := ceil_eq ((b.V - a.V) * (x - a.At)) (b.At - a.At) hd
  have hm := Int.emod_nonneg ((b.V - a.V) * (x - a.At)) (show b.At - a.At ≠ 0 by omega)
  have q1 : -a.V ≤ (b.V - a.V) * (x - a.At) / (b.At - a.At) := Int.le_ediv_of_mul_le hd (by rw [Int.neg_mul]; omega)
  have q2 : -(v - a.V) ≤ (-((b.V - a.V) * (x - a.At))) / (b.At - a.At) := Int.le_ediv_of_mul_le hd (by rw [Int.neg_mul]; omega)
  simp only [between]
  omega

theorem value_bounds {ks : List Knot} {a v : Int} (h : GoodLine ks a v) (x : Int) : 0 ≤ (value ks x).Lo ∧ (value ks x).Lo ≤ (value ks x).Hi ∧ (value ks x).Hi ≤ v := by
  have hp := h.pos
  have hl := before_le x ks
  unfold value
  split
  · have := h.v0 0 hp
    exact ⟨this.1, Int.le_refl _, this.2⟩
  · split
    · have := h.v0 (ks.length - 1) (by omega)
      exact ⟨this.1, Int.le_refl _, this.2⟩
    · have h1 := h.up (before x ks - 1) (by omega)
      rw [show before x ks - 1 + 1 = before x ks by omega] at h1
      have h2 := before_lt x ks (before x ks - 1) (by omega)
      have h3 := before_ge x ks (by omega)
      have va := h.v0 (before x ks - 1) (by omega)
      have vb := h.v0 (before x ks) (by omega)
      exact between_bounds _ _ x v h1 (by omega) h3 va.1 va.2 vb.1 vb.2

theorem okLine_right {ks : List Knot} (h : okLine ks = 0) : right ks = true := by
  unfold okLine at h
  simp [right, h]

theorem at_bounds {ks : List Knot} (h : okLine ks = 0) (x : Int) : 0 ≤ (At ks x).Lo ∧ (At ks x).Lo ≤ (At ks x).Hi ∧ (At ks x).Hi ≤ 68719476736 := by
  rw [At, if_pos (okLine_right h)]
  exact value_bounds (checkLine_good h).1 x

end Mpl
