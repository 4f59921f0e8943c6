/- Plain laws of jobs and choices. No Go in sight. -/
import Derived.Test.YtannipfohicpmaaLines
namespace Mpl

/-- a choice of a valid job: what it says of the numbers -/
structure Chosen (j : Job) (l : List Int) : Prop where
  few : j.Ends.length ≤ 5
  pos : 0 < j.Ends.length
  same : l.length = j.Ends.length
  grades : ∀ i, i < l.length → 0 ≤ pick l i ∧ (pick l i).toNat < j.Grades.length
  ends : ∀ i, i < j.Ends.length → 1 ≤ pick j.Ends i ∧ pick j.Ends i ≤ 1048576
  up : ∀ i, i < j.Ends.length → topOf j.Ends i < pick j.Ends i
  top0 : ∀ i, i < j.Ends.length → 0 ≤ topOf j.Ends i
  fair : ∀ i, i < j.Grades.length → fairGrade (gd j.Grades i) = true
  over : 0 ≤ j.Over ∧ j.Over ≤ 1099511627776
  factor : 1000 ≤ j.Factor ∧ j.Factor ≤ 3000
  ngr : j.Grades.length ≤ 6
  nload : j.Loads.length ≤ 6
  loads : ∀ i, i < j.Loads.length → okLine (ld j.Loads i).In = 0 ∧ okLine (ld j.Loads i).Out = 0

theorem pick_succ (a : Int) (l : List Int) (i : Nat) : pick (a :: l) (i + 1) = pick l i := by simp [pick]
theorem pick_zero (a : Int) (l : List Int) : pick (a :: l) 0 = a := by simp [pick]
theorem pick_get (l : List Int) (i : Nat) (h : i < l.length) : pick l i = l[i] := by simp [pick, h]

theorem ascends_up (a : Int) (l : List Int) (h : ascends a l = true) : ∀ i, i < l.length → pick (a :: l) i < pick (a :: l) (i + 1) := by
  induction l generalizing a with
  | nil => intro i hi; simp at hi
  | cons b l ih =>
    rw [ascends, Bool.and_eq_true, decide_eq_true_eq] at h
    intro i hi
    cases i with
    | zero => rw [pick_zero, pick_succ, pick_zero]; exact h.1
    | succ i => rw [pick_succ, pick_succ]; exact ih b h.2 i (by simpa using hi)

structure GoodEnds (l : List Int) : Prop where
  few : l.length ≤ 5
  pos : 0 < l.length
  ends : ∀ i, i < l.length → 1 ≤ pick l i ∧ pick l i ≤ 1048576
  up : ∀ i, i < l.length → topOf l i < pick l i
  top0 : ∀ i, i < l.length → 0 ≤ topOf l i

theorem checkEnds_good {l : List Int} (h : checkEnds l = 0) : GoodEnds l := by
  unfold checkEnds at h
  by_cases h0 : l.length = 0
  · rw [if_pos h0] at h; omega
  rw [if_neg h0] at h
  by_cases h5 : 5 < l.length
  · rw [if_pos h5] at h; omega
  rw [if_neg h5] at h
  by_cases ha : (l.any fun z => !within z 1 1048576) = true
  · rw [if_pos ha] at h; omega
  rw [if_neg ha] at h
  have he : ∀ i, i < l.length → 1 ≤ pick l i ∧ pick l i ≤ 1048576 := fun i hi => by
    simp only [List.any_eq_true, not_exists, not_and] at ha
    have := ha l[i] (List.getElem_mem hi)
    rw [pick_get l i hi]
    simpa [within] using this
  cases l with
  | nil => simp at h0
  | cons a l =>
    simp only at h
    by_cases hs : ascends a l = true
    · have hup := ascends_up a l hs
      refine ⟨by omega, by omega, he, ?_, ?_⟩
      · intro i hi
        cases i with
        | zero => have := (he 0 (by simp)).1; simp only [topOf, if_true]; omega
        | succ i => simp only [topOf]; exact hup i (by simpa using hi)
      · intro i hi
        cases i with
        | zero => simp [topOf]
        | succ i => have := (he i (by omega)).1; simp only [topOf]; simp; omega
    · rw [if_neg hs] at h; omega

theorem checkLoads_good (ls : List Stress) (h : checkLoads ls = 0) : ∀ i, i < ls.length → okLine (ld ls i).In = 0 ∧ okLine (ld ls i).Out = 0 := by
  induction ls with
  | nil => intro i hi; simp at hi
  | cons a ls ih =>
    rw [checkLoads] at h
    by_cases h1 : okLine a.In = 0
    · rw [if_neg (by simpa using h1)] at h
      by_cases h2 : okLine a.Out = 0
      · rw [if_neg (by simpa using h2)] at h
        intro i hi
        cases i with
        | zero => simp [ld, h1, h2]
        | succ i => have := ih h i (by simpa using hi); simpa [ld] using this
      · rw [if_pos h2] at h; exact absurd h h2
    · rw [if_pos h1] at h; exact absurd h h1

/-- what a valid job is -/
structure GoodJob (j : Job) : Prop where
  ends : GoodEnds j.Ends
  nload : j.Loads.length ≤ 6
  loads : ∀ i, i < j.Loads.length → okLine (ld j.Loads i).In = 0 ∧ okLine (ld j.Loads i).Out = 0
  ngr : j.Grades.length ≤ 6
  gpos : 0 < j.Grades.length
  fair : ∀ i, i < j.Grades.length → fairGrade (gd j.Grades i) = true
  factor : 1000 ≤ j.Factor ∧ j.Factor ≤ 3000
  over : 0 ≤ j.Over ∧ j.Over ≤ 1099511627776

theorem checkJob_good {j : Job} (h : checkJob j = 0) : GoodJob j := by
  unfold checkJob at h
  by_cases h1 : checkEnds j.Ends = 0
  · rw [if_neg (by simpa using h1)] at h
    by_cases h2 : 6 < j.Loads.length
    · rw [if_pos h2] at h; omega
    rw [if_neg h2] at h
    by_cases h3 : checkLoads j.Loads = 0
    · rw [if_neg (by simpa using h3)] at h
      by_cases h4 : j.Grades.length = 0
      · rw [if_pos h4] at h; omega
      rw [if_neg h4] at h
      by_cases h5 : 6 < j.Grades.length
      · rw [if_pos h5] at h; omega
      rw [if_neg h5] at h
      by_cases h6 : (j.Grades.any (fun g => !fairGrade g) || !within j.Factor 1000 3000 || !within j.Over 0 1099511627776) = true
      · rw [if_pos h6] at h; omega
      · simp only [Bool.or_eq_true, not_or, List.any_eq_true, not_exists, not_and] at h6
        obtain ⟨⟨ha, hb⟩, hc⟩ := h6
        refine ⟨checkEnds_good h1, by omega, checkLoads_good _ h3, by omega, by omega, ?_, ?_, ?_⟩
        · intro i hi
          have := ha j.Grades[i] (List.getElem_mem hi)
          simpa [gd, hi] using this
        · simpa [within] using hb
        · simpa [within] using hc
    · rw [if_pos h3] at h; exact absurd h h3
  · rw [if_pos h1] at h; exact absurd h h1

theorem isChoice_chosen {j : Job} {l : List Int} (h : isChoice j l = true) : Chosen j l := by
  simp only [isChoice, Bool.and_eq_true, decide_eq_true_eq] at h
  obtain ⟨⟨h1, h2⟩, h3⟩ := h
  have g := checkJob_good h1
  refine ⟨g.ends.few, g.ends.pos, h2, ?_, g.ends.ends, g.ends.up, g.ends.top0, g.fair, g.over, g.factor, g.ngr, g.nload, g.loads⟩
  intro i hi
  have h4 : ¬ (pick l i < 0 ∨ (j.Grades.length : Int) ≤ pick l i) := by
    intro hx
    have : (l.any fun g => decide (g < 0 ∨ (j.Grades.length : Int) ≤ g)) = true := by
      rw [List.any_eq_true]
      exact ⟨l[i], List.getElem_mem hi, by rw [← pick_get l i hi]; simpa using hx⟩
    rw [this] at h3
    cases h3
  omega

theorem sumFrom_last (f : Nat → Int) (i n : Nat) : sumFrom f i (n + 1) = sumFrom f i n + f (i + n) := by
  induction n generalizing i with
  | zero => simp [sumFrom]
  | succ n ih =>
    rw [sumFrom, ih (i + 1), sumFrom]
    rw [show i + 1 + n = i + (n + 1) by omega]
    omega

theorem sumFrom_bounds (f : Nat → Int) (i n : Nat) (M : Int) (h : ∀ k, i ≤ k → k < i + n → 0 ≤ f k ∧ f k ≤ M) : 0 ≤ sumFrom f i n ∧ sumFrom f i n ≤ n * M := by
  induction n generalizing i with
  | zero => simp [sumFrom]
  | succ n ih =>
    have h1 := h i (by omega) (by omega)
    have h2 := ih (i + 1) (fun k hk hk2 => h k (by omega) (by omega))
    rw [sumFrom]
    have : ((n + 1 : Nat) : Int) * M = n * M + M := by rw [Int.natCast_add, Int.add_mul]; simp
    omega

theorem prod20 (a b : Int) (h1 : 0 ≤ a) (h2 : a ≤ 1048576) (h3 : 0 ≤ b) (h4 : b ≤ 1048576) : 0 ≤ a * b ∧ a * b ≤ 1099511627776 := by
  have x1 : 0 ≤ a * b := Int.mul_nonneg h1 h3
  have x2 : a * b ≤ 1048576 * b := Int.mul_le_mul_of_nonneg_right h2 h3
  omega

theorem fair_bounds {g : Grade} (h : fairGrade g = true) : (0 ≤ g.Burst ∧ g.Burst ≤ 68719476736) ∧ (0 ≤ g.Collapse ∧ g.Collapse ≤ 68719476736) ∧ (1 ≤ g.Pull ∧ g.Pull ≤ 1099511627776) ∧ (0 ≤ g.Weight ∧ g.Weight ≤ 1048576) ∧ (0 ≤ g.Cost ∧ g.Cost ≤ 1048576) := by
  simp only [fairGrade, within, Bool.and_eq_true, decide_eq_true_eq] at h
  omega

theorem Chosen.sec {j : Job} {l : List Int} (h : Chosen j l) {k : Nat} (hk : k < l.length) : 0 < bottom j k - top j k ∧ bottom j k - top j k ≤ 1048576 := by
  have h1 := h.up k (by rw [← h.same]; exact hk)
  have h2 := h.top0 k (by rw [← h.same]; exact hk)
  have h3 := h.ends k (by rw [← h.same]; exact hk)
  unfold bottom top
  omega
theorem Chosen.cost {j : Job} {l : List Int} (h : Chosen j l) {k : Nat} (hk : k < l.length) : 0 ≤ costOf j l k ∧ costOf j l k ≤ 1099511627776 := by
  have h1 := h.sec hk
  have h2 := fair_bounds (h.fair _ (h.grades k hk).2)
  exact prod20 _ _ h2.2.2.2.2.1 h2.2.2.2.2.2 (by omega) h1.2
theorem Chosen.weight {j : Job} {l : List Int} (h : Chosen j l) {k : Nat} (hk : k < l.length) : 0 ≤ weightOf j l k ∧ weightOf j l k ≤ 1099511627776 := by
  have h1 := h.sec hk
  have h2 := fair_bounds (h.fair _ (h.grades k hk).2)
  exact prod20 _ _ h2.2.2.2.1.1 h2.2.2.2.1.2 (by omega) h1.2

end Mpl
