/- Plain laws of jobs made of numbers. No Go in sight. -/
import Derived.Test.YtannipfohicpmaaJobs
namespace Mpl

theorem ascends_iff (a : Int) (l : List Int) : ascends a l = true ↔ ∀ i, i < l.length → pick (a :: l) i < pick (a :: l) (i + 1) := by
  induction l generalizing a with
  | nil => simp [ascends]
  | cons b l ih =>
    rw [ascends, Bool.and_eq_true, decide_eq_true_eq, ih b]
    constructor
    · rintro ⟨h1, h2⟩ i hi
      cases i with
      | zero => rw [pick_zero, pick_succ, pick_zero]; exact h1
      | succ i => rw [pick_succ, pick_succ]; exact h2 i (by simpa using hi)
    · intro h
      refine ⟨?_, fun i hi => ?_⟩
      · have := h 0 (by simp)
        rwa [pick_zero, pick_succ, pick_zero] at this
      · have := h (i + 1) (by simpa using hi)
        rwa [pick_succ, pick_succ] at this

theorem good_checkEnds {l : List Int} (h0 : 0 < l.length) (h5 : l.length ≤ 5) (h1 : ∀ i, i < l.length → 1 ≤ pick l i ∧ pick l i ≤ 1048576) (h2 : ∀ i, i + 1 < l.length → pick l i < pick l (i + 1)) : checkEnds l = 0 := by
  unfold checkEnds
  rw [if_neg (by omega), if_neg (by omega), if_neg]
  · cases l with
    | nil => rfl
    | cons a l =>
      show (if ascends a l = true then (0 : Int) else 11) = 0
      rw [if_pos ((ascends_iff a l).2 fun i hi => h2 i (by simpa using hi))]
  · simp only [List.any_eq_true, not_exists, not_and]
    intro z hz
    obtain ⟨i, hi, rfl⟩ := List.getElem_of_mem hz
    have := h1 i hi
    rw [pick_get l i hi] at this
    simp [within]
    omega

theorem good_checkLoads (ls : List Stress) (h : ∀ i, i < ls.length → okLine (ld ls i).In = 0 ∧ okLine (ld ls i).Out = 0) : checkLoads ls = 0 := by
  induction ls with
  | nil => rfl
  | cons a ls ih =>
    have h0 := h 0 (by simp)
    have e0 : ld (a :: ls) 0 = a := by simp [ld]
    rw [e0] at h0
    rw [checkLoads, if_neg (by simp [h0.1]), if_neg (by simp [h0.2])]
    refine ih fun i hi => ?_
    have := h (i + 1) (by simpa using hi)
    simpa [ld] using this

theorem good_checkJob {j : Job} (g : GoodJob j) : checkJob j = 0 := by
  unfold checkJob
  have h1 : checkEnds j.Ends = 0 := good_checkEnds g.ends.pos g.ends.few g.ends.ends (fun i hi => by have := g.ends.up (i + 1) hi; simpa [topOf] using this)
  have h2 : checkLoads j.Loads = 0 := good_checkLoads _ g.loads
  have h3 := g.nload
  have h4 := g.ngr
  have h5 := g.gpos
  rw [if_neg (by simp [h1]), if_neg (by omega), if_neg (by simp [h2]), if_neg (by omega), if_neg (by omega), if_neg]
  simp only [Bool.or_eq_true, not_or, List.any_eq_true, not_exists, not_and]
  refine ⟨⟨fun x hx => ?_, ?_⟩, ?_⟩
  · obtain ⟨i, hi, rfl⟩ := List.getElem_of_mem hx
    have := g.fair i hi
    simpa [gd, hi] using this
  · have := g.factor; simp [within]; omega
  · have := g.over; simp [within]; omega

/-- a line so far, made of numbers -/
structure LineSo (ks : List Knot) (at_ : Int) : Prop where
  knot : ∀ i, i < ks.length → 0 ≤ (kn ks i).At ∧ (kn ks i).At < at_ ∧ 0 ≤ (kn ks i).V ∧ (kn ks i).V ≤ 2000000000
  up : ∀ i, i + 1 < ks.length → (kn ks i).At < (kn ks (i + 1)).At
  lo : 0 ≤ at_
  hi : at_ ≤ 150001 * (ks.length : Int)
theorem LineSo.nil : LineSo [] 0 := ⟨fun i hi => absurd hi (by simp), fun i hi => absurd hi (by simp), by omega, by simp⟩
theorem kn_snoc_lt (ks : List Knot) (k : Knot) (i : Nat) (h : i < ks.length) : kn (ks ++ [k]) i = kn ks i := by simp [kn, List.getElem?_append_left h]
theorem kn_snoc_last (ks : List Knot) (k : Knot) : kn (ks ++ [k]) ks.length = k := by simp [kn]
theorem LineSo.snoc {ks : List Knot} {at_ v d : Int} (h : LineSo ks at_) (hv : 0 ≤ v) (hv2 : v ≤ 2000000000) (hd : 0 ≤ d) (hd2 : d ≤ 150000) : LineSo (ks ++ [⟨at_, v⟩]) (at_ + 1 + d) := by
  refine ⟨fun i hi => ?_, fun i hi => ?_, by have := h.lo; omega, by have := h.hi; simp; omega⟩
  · rcases Nat.lt_or_ge i ks.length with h1 | h1
    · rw [kn_snoc_lt ks _ i h1]; have := h.knot i h1; omega
    · obtain rfl : i = ks.length := by simp at hi; omega
      rw [kn_snoc_last]; have := h.lo; simp; omega
  · have hi' : i < ks.length := by simp at hi; omega
    rw [kn_snoc_lt ks _ i hi']
    rcases Nat.lt_or_ge (i + 1) ks.length with h1 | h1
    · rw [kn_snoc_lt ks _ _ h1]; exact h.up i h1
    · obtain h2 : i + 1 = ks.length := by omega
      rw [h2, kn_snoc_last]
      exact (h.knot i hi').2.1
theorem LineSo.ok {ks : List Knot} {at_ : Int} (h : LineSo ks at_) (h0 : 0 < ks.length) (h3 : ks.length ≤ 3) : okLine ks = 0 :=
  good_checkLine ⟨h0, by omega, fun i hi => by have := h.knot i hi; have := h.hi; omega, fun i hi => by have := h.knot i hi; omega, h.up⟩ (by omega) (by omega) (by omega) (by omega)

/-- ends so far, made of numbers -/
structure EndsSo (l : List Int) (e : Int) : Prop where
  knot : ∀ i, i < l.length → 1 ≤ pick l i ∧ pick l i ≤ e
  up : ∀ i, i + 1 < l.length → pick l i < pick l (i + 1)
  lo : 0 ≤ e
  hi : e ≤ 150001 * (l.length : Int)
theorem EndsSo.nil : EndsSo [] 0 := ⟨fun i hi => absurd hi (by simp), fun i hi => absurd hi (by simp), by omega, by simp⟩
theorem pick_snoc_lt (l : List Int) (x : Int) (i : Nat) (h : i < l.length) : pick (l ++ [x]) i = pick l i := by simp [pick, List.getElem?_append_left h]
theorem pick_snoc_last (l : List Int) (x : Int) : pick (l ++ [x]) l.length = x := by simp [pick]
theorem EndsSo.snoc {l : List Int} {e d : Int} (h : EndsSo l e) (hd : 0 ≤ d) (hd2 : d ≤ 150000) : EndsSo (l ++ [e + 1 + d]) (e + 1 + d) := by
  refine ⟨fun i hi => ?_, fun i hi => ?_, by have := h.lo; omega, by have := h.hi; simp; omega⟩
  · rcases Nat.lt_or_ge i l.length with h1 | h1
    · rw [pick_snoc_lt l _ i h1]; have := h.knot i h1; omega
    · obtain rfl : i = l.length := by simp at hi; omega
      rw [pick_snoc_last]; have := h.lo; omega
  · have hi' : i < l.length := by simp at hi; omega
    rw [pick_snoc_lt l _ i hi']
    rcases Nat.lt_or_ge (i + 1) l.length with h1 | h1
    · rw [pick_snoc_lt l _ _ h1]; exact h.up i h1
    · obtain h2 : i + 1 = l.length := by omega
      rw [h2, pick_snoc_last]
      have := (h.knot i hi').2; omega

/-- a job made of numbers -/
structure Made (j : Job) : Prop where
  ok : checkJob j = 0
  ends : j.Ends.length ≤ 3
  loads : j.Loads.length ≤ 3
  grades : j.Grades.length ≤ 4
  factor : j.Factor ≤ 1500
  over : j.Over ≤ 20000000

theorem made_of {j : Job} {e : Int} (h1 : EndsSo j.Ends e) (h2 : 0 < j.Ends.length) (h3 : j.Ends.length ≤ 3) (h4 : j.Loads.length ≤ 3) (h5 : ∀ i, i < j.Loads.length → okLine (ld j.Loads i).In = 0 ∧ okLine (ld j.Loads i).Out = 0)
    (h6 : 0 < j.Grades.length) (h7 : j.Grades.length ≤ 4) (h8 : ∀ i, i < j.Grades.length → fairGrade (gd j.Grades i) = true) (h9 : 1000 ≤ j.Factor) (h10 : j.Factor ≤ 1500) (h11 : 0 ≤ j.Over) (h12 : j.Over ≤ 20000000) : Made j := by
  refine ⟨good_checkJob ⟨⟨by omega, h2, fun i hi => ?_, fun i hi => ?_, fun i hi => ?_⟩, by omega, h5, by omega, h6, h8, by omega, by omega⟩, h3, h4, h7, h10, h12⟩
  · have := h1.knot i hi; have := h1.hi; omega
  · cases i with
    | zero => have := (h1.knot 0 hi).1; simp only [topOf, if_true]; omega
    | succ i => simp only [topOf]; exact h1.up i hi
  · cases i with
    | zero => simp [topOf]
    | succ i => have := (h1.knot i (by omega)).1; simp only [topOf]; simp; omega

/-- a grade made of a number -/
def madeGrade (n : Int) : Grade := ⟨n % 3000000000, n / 5 % 3000000000, 1 + n / 7 % 200000000, n / 11 % 400, n / 13 % 20⟩
theorem fair_mk {g : Grade} (h : (0 ≤ g.Burst ∧ g.Burst ≤ 68719476736) ∧ (0 ≤ g.Collapse ∧ g.Collapse ≤ 68719476736) ∧ (1 ≤ g.Pull ∧ g.Pull ≤ 1099511627776) ∧ (0 ≤ g.Weight ∧ g.Weight ≤ 1048576) ∧ (0 ≤ g.Cost ∧ g.Cost ≤ 1048576)) : fairGrade g = true := by
  simp only [fairGrade, within, Bool.and_eq_true, decide_eq_true_eq]
  omega
theorem madeGrade_fair (n : Int) : fairGrade (madeGrade n) = true := by
  refine fair_mk ⟨?_, ?_, ?_, ?_, ?_⟩
  · show 0 ≤ n % 3000000000 ∧ n % 3000000000 ≤ 68719476736; omega
  · show 0 ≤ n / 5 % 3000000000 ∧ n / 5 % 3000000000 ≤ 68719476736; omega
  · show 1 ≤ 1 + n / 7 % 200000000 ∧ 1 + n / 7 % 200000000 ≤ 1099511627776; omega
  · show 0 ≤ n / 11 % 400 ∧ n / 11 % 400 ≤ 1048576; omega
  · show 0 ≤ n / 13 % 20 ∧ n / 13 % 20 ≤ 1048576; omega
theorem gd_snoc (gs : List Grade) (g : Grade) (h : ∀ i, i < gs.length → fairGrade (gd gs i) = true) (hg : fairGrade g = true) : ∀ i, i < (gs ++ [g]).length → fairGrade (gd (gs ++ [g]) i) = true := fun i hi => by
  rcases Nat.lt_or_ge i gs.length with h1 | h1
  · have : gd (gs ++ [g]) i = gd gs i := by simp [gd, List.getElem?_append_left h1]
    rw [this]; exact h i h1
  · obtain rfl : i = gs.length := by simp at hi; omega
    have : gd (gs ++ [g]) gs.length = g := by simp [gd]
    rw [this]; exact hg
theorem ld_snoc (ls : List Stress) (s : Stress) (h : ∀ i, i < ls.length → okLine (ld ls i).In = 0 ∧ okLine (ld ls i).Out = 0) (hs : okLine s.In = 0 ∧ okLine s.Out = 0) : ∀ i, i < (ls ++ [s]).length → okLine (ld (ls ++ [s]) i).In = 0 ∧ okLine (ld (ls ++ [s]) i).Out = 0 := fun i hi => by
  rcases Nat.lt_or_ge i ls.length with h1 | h1
  · have : ld (ls ++ [s]) i = ld ls i := by simp [ld, List.getElem?_append_left h1]
    rw [this]; exact h i h1
  · obtain rfl : i = ls.length := by simp at hi; omega
    have : ld (ls ++ [s]) ls.length = s := by simp [ld]
    rw [this]; exact hs

end Mpl
