/- Plain laws of lines between two places: a line is straight where it has no knot, so what is borne at the ends and at the knots of a section is borne in all of it. No Go in sight. -/
import Derived.Test.YtannipfohicpmaaLines
import Derived.Test.YtannipfohicpmaaBest
namespace Mpl

/-- from p to q a line is straight: its value is (A + B x) / D -/
def Straight (ks : List Knot) (p q D A B : Int) : Prop :=
  0 < D ∧ ∀ x, p ≤ x → x ≤ q → (At ks x).Lo * D ≤ A + B * x ∧ A + B * x < ((At ks x).Lo + 1) * D ∧ A + B * x ≤ (At ks x).Hi * D ∧ ((At ks x).Hi - 1) * D < A + B * x

theorem floor_bounds (N d : Int) (hd : 0 < d) : N / d * d ≤ N ∧ N < (N / d + 1) * d := by
  have e1 := Int.mul_ediv_add_emod N d
  have e2 := Int.emod_nonneg N (show d ≠ 0 by omega)
  have e3 := Int.emod_lt_of_pos N hd
  rw [Int.add_mul, Int.one_mul, Int.mul_comm (N / d) d]
  omega

theorem between_straight (a b : Knot) (x : Int) (h : a.At < b.At) :
    (between a b x).Lo * (b.At - a.At) ≤ a.V * (b.At - a.At) + (b.V - a.V) * (x - a.At) ∧ a.V * (b.At - a.At) + (b.V - a.V) * (x - a.At) < ((between a b x).Lo + 1) * (b.At - a.At) ∧
    a.V * (b.At - a.At) + (b.V - a.V) * (x - a.At) ≤ (between a b x).Hi * (b.At - a.At) ∧ ((between a b x).Hi - 1) * (b.At - a.At) < a.V * (b.At - a.At) + (b.V - a.V) * (x - a.At) := by
  have hd : 0 < b.At - a.At := by omega
  obtain ⟨f1, f2⟩ := floor_bounds ((b.V - a.V) * (x - a.At)) (b.At - a.At) hd
  obtain ⟨g1, g2⟩ := floor_bounds (-((b.V - a.V) * (x - a.At))) (b.At - a.At) hd
  simp only [between]
  generalize (b.V - a.V) * (x - a.At) = N at *
  generalize b.At - a.At = d at *
  generalize N / d = q at *
  generalize -N / d = r at *
  simp only [Int.add_mul, Int.sub_mul, Int.one_mul] at *
  omega

theorem value_knot {ks : List Knot} {a v : Int} (h : GoodLine ks a v) {i : Nat} (hi : i < ks.length) : value ks (kn ks i).At = ⟨(kn ks i).V, (kn ks i).V⟩ := by
  have hb : before (kn ks i).At ks = i := by
    have h1 := before_iff h (kn ks i).At
    have h2 := before_le (kn ks i).At ks
    rcases Nat.lt_trichotomy (before (kn ks i).At ks) i with h3 | h3 | h3
    · have := h.lt h3 hi
      have := (h1 _ (by omega)).1 this
      omega
    · exact h3
    · have := (h1 i hi).2 h3
      omega
  unfold value
  rw [hb]
  by_cases h0 : i = 0
  · rw [if_pos h0, h0]
  · rw [if_neg h0, if_neg (by omega)]
    have hu := h.up (i - 1) (by omega)
    rw [show i - 1 + 1 = i by omega] at hu
    unfold between
    have hd : (kn ks i).At - (kn ks (i - 1)).At ≠ 0 := by omega
    rw [Int.mul_ediv_cancel _ hd, ← Int.neg_mul, Int.mul_ediv_cancel _ hd]
    congr 1 <;> omega

theorem straight_of {ks : List Knot} (h0 : okLine ks = 0) (p q : Int) (hno : ∀ i, i < ks.length → (kn ks i).At ≤ p ∨ q ≤ (kn ks i).At) : ∃ D A B, Straight ks p q D A B := by
  have hg := (checkLine_good h0).1
  have hat : ∀ x, At ks x = value ks x := fun x => by rw [At, if_pos (okLine_right h0)]
  have hpos := hg.pos
  have hc := before_iff hg (p + 1)
  have hcl := before_le (p + 1) ks
  generalize before (p + 1) ks = c at *
  by_cases c0 : c = 0
  · refine ⟨1, (kn ks 0).V, 0, by omega, fun x hx hx2 => ?_⟩
    have hv : value ks x = ⟨(kn ks 0).V, (kn ks 0).V⟩ := by
      have hb : before x ks = 0 := by
        rcases Nat.eq_zero_or_pos (before x ks) with h | h
        · exact h
        · have h1 := before_lt x ks 0 h
          have h2 := (hc 0 hpos)
          rcases hno 0 hpos with h3 | h3
          · have := h2.1 (by omega); omega
          · omega
      unfold value
      rw [if_pos hb]
    rw [hat, hv]
    simp
    omega
  by_cases cl : c = ks.length
  · refine ⟨1, (kn ks (ks.length - 1)).V, 0, by omega, fun x hx hx2 => ?_⟩
    have hl := (hc (ks.length - 1) (by omega)).2 (by omega)
    have hv : value ks x = ⟨(kn ks (ks.length - 1)).V, (kn ks (ks.length - 1)).V⟩ := by
      by_cases he : (kn ks (ks.length - 1)).At = x
      · rw [← he, value_knot hg (by omega)]
      · have hb : before x ks = ks.length := by
          have h1 := (before_iff hg x (ks.length - 1) (by omega)).1 (by omega)
          have := before_le x ks
          omega
        unfold value
        rw [hb, if_neg (by omega), if_pos rfl]
    rw [hat, hv]
    simp
    omega
  · have ha := (hc (c - 1) (by omega)).2 (by omega)
    have hb : p < (kn ks c).At := by
      rcases Int.lt_or_le p (kn ks c).At with h | h
      · exact h
      · have := (hc c (by omega)).1 (by omega); omega
    have hb2 : q ≤ (kn ks c).At := by
      rcases hno c (by omega) with h | h
      · omega
      · exact h
    have hab := hg.lt (show c - 1 < c by omega) (by omega)
    refine ⟨(kn ks c).At - (kn ks (c - 1)).At, (kn ks (c - 1)).V * ((kn ks c).At - (kn ks (c - 1)).At) - ((kn ks c).V - (kn ks (c - 1)).V) * (kn ks (c - 1)).At, (kn ks c).V - (kn ks (c - 1)).V, by omega, fun x hx hx2 => ?_⟩
    have hv : value ks x = between (kn ks (c - 1)) (kn ks c) x := by
      by_cases he : (kn ks (c - 1)).At = x
      · rw [← he, value_knot hg (by omega)]
        unfold between
        simp
      · have hbx : before x ks = c := by
          have h1 := (before_iff hg x (c - 1) (by omega)).1 (by omega)
          rcases Nat.lt_or_ge c (before x ks) with h | h
          · have := before_lt x ks c h; omega
          · omega
        unfold value
        rw [hbx, if_neg c0, if_neg cl]
    rw [hat, hv]
    have hs := between_straight (kn ks (c - 1)) (kn ks c) x hab
    have he : (kn ks (c - 1)).V * ((kn ks c).At - (kn ks (c - 1)).At) - ((kn ks c).V - (kn ks (c - 1)).V) * (kn ks (c - 1)).At + ((kn ks c).V - (kn ks (c - 1)).V) * x = (kn ks (c - 1)).V * ((kn ks c).At - (kn ks (c - 1)).At) + ((kn ks c).V - (kn ks (c - 1)).V) * (x - (kn ks (c - 1)).At) := by
      rw [Int.mul_sub ((kn ks c).V - (kn ks (c - 1)).V) x]
      omega
    rw [he]
    exact hs

theorem nearest_low (L : List Int) (z a : Int) (ha : a ∈ L) (hz : a ≤ z) : ∃ p, p ∈ L ∧ p ≤ z ∧ ∀ x, x ∈ L → x ≤ z → x ≤ p := by
  induction L generalizing a with
  | nil => simp at ha
  | cons y L ih =>
    by_cases hex : ∃ b, b ∈ L ∧ b ≤ z
    · obtain ⟨b, hb, hbz⟩ := hex
      obtain ⟨p, hp, hpz, hm⟩ := ih b hb hbz
      by_cases hy : y ≤ z ∧ p < y
      · refine ⟨y, by simp, hy.1, fun x hx hxz => ?_⟩
        rcases List.mem_cons.1 hx with rfl | hx
        · omega
        · have := hm x hx hxz; omega
      · refine ⟨p, by simp [hp], hpz, fun x hx hxz => ?_⟩
        rcases List.mem_cons.1 hx with rfl | hx
        · omega
        · exact hm x hx hxz
    · rcases List.mem_cons.1 ha with rfl | ha
      · refine ⟨a, by simp, hz, fun x hx hxz => ?_⟩
        rcases List.mem_cons.1 hx with rfl | hx
        · omega
        · exact (hex ⟨x, hx, hxz⟩).elim
      · exact (hex ⟨a, ha, hz⟩).elim
theorem nearest_high (L : List Int) (z a : Int) (ha : a ∈ L) (hz : z ≤ a) : ∃ p, p ∈ L ∧ z ≤ p ∧ ∀ x, x ∈ L → z ≤ x → p ≤ x := by
  obtain ⟨p, hp, hpz, hm⟩ := nearest_low (L.map fun x => -x) (-z) (-a) (List.mem_map.2 ⟨a, ha, rfl⟩) (by omega)
  obtain ⟨y, hy, rfl⟩ := List.mem_map.1 hp
  refine ⟨y, hy, by omega, fun x hx hxz => ?_⟩
  have := hm (-x) (List.mem_map.2 ⟨x, hx, rfl⟩) (by omega)
  omega

theorem fold_max (f : Int → Int) (l : List Int) (b : Int) : b ≤ l.foldl (fun o z => max o (f z)) b ∧ ∀ z, z ∈ l → f z ≤ l.foldl (fun o z => max o (f z)) b := by
  induction l generalizing b with
  | nil => simp
  | cons a l ih =>
    rw [List.foldl_cons]
    have h := ih (max b (f a))
    refine ⟨by have := h.1; omega, fun z hz => ?_⟩
    rcases List.mem_cons.1 hz with rfl | hz
    · have := h.1; omega
    · exact h.2 z hz
theorem fold_max_le (f : Int → Int) (l : List Int) (b M : Int) (hb : b ≤ M) (h : ∀ z, z ∈ l → f z ≤ M) : l.foldl (fun o z => max o (f z)) b ≤ M := by
  induction l generalizing b with
  | nil => exact hb
  | cons a l ih =>
    rw [List.foldl_cons]
    exact ih _ (by have := h a (by simp); omega) fun z hz => h z (by simp [hz])

theorem excess_small {a b : List Knot} (ha : okLine a = 0) (hb : okLine b = 0) (z : Int) : -68719476736 ≤ excessAt a b z ∧ excessAt a b z ≤ 68719476736 := by
  have h1 := at_bounds ha z
  have h2 := at_bounds hb z
  unfold excessAt
  omega

theorem extreme_ge {a b : List Knot} {lo hi : Int} (ha : okLine a = 0) (hb : okLine b = 0) (h0 : 0 ≤ lo) (h1 : lo ≤ hi) (h2 : hi ≤ 1048576) :
    (∀ z, z ∈ lo :: places a b lo hi → excessAt a b z ≤ extreme a b lo hi) ∧ -68719476736 ≤ extreme a b lo hi ∧ extreme a b lo hi ≤ 68719476736 := by
  unfold extreme
  rw [if_neg (by omega)]
  obtain ⟨f1, f2⟩ := fold_max (excessAt a b) (places a b lo hi) (excessAt a b lo)
  have f3 := fold_max_le (excessAt a b) (places a b lo hi) (excessAt a b lo) 68719476736 (excess_small ha hb lo).2 fun z _ => (excess_small ha hb z).2
  refine ⟨fun z hz => ?_, by have := (excess_small ha hb lo).1; omega, f3⟩
  rcases List.mem_cons.1 hz with rfl | hz
  · exact f1
  · exact f2 z hz

theorem mul_le (a b c : Int) (h : a ≤ b) (hc : 0 ≤ c) : c * a ≤ c * b := Int.mul_le_mul_of_nonneg_left h hc

/-- f is straight and small at both ends: it is small between them -/
theorem line_le (A B p q z M : Int) (h1 : A + B * p ≤ M) (h2 : A + B * q ≤ M) (hp : p ≤ z) (hq : z ≤ q) : A + B * z ≤ M := by
  rcases Int.le_total 0 B with hB | hB
  · have := mul_le z q B hq hB; omega
  · have := mul_le p z (-B) hp (by omega)
    rw [Int.neg_mul, Int.neg_mul] at this
    omega

theorem straight_pair {a b : List Knot} {p q z M : Int} {D1 A1 B1 D2 A2 B2 : Int} (s1 : Straight a p q D1 A1 B1) (s2 : Straight b p q D2 A2 B2) (hp : p ≤ z) (hq : z ≤ q) (ep : excessAt a b p ≤ M) (eq : excessAt a b q ≤ M) :
    (At a z).Hi - (At b z).Lo ≤ M + 1 ∧ (At a z).Lo - (At b z).Hi ≤ M := by
  obtain ⟨d1, s1⟩ := s1
  obtain ⟨d2, s2⟩ := s2
  have hD : 0 < D1 * D2 := Int.mul_pos d1 d2
  have key : ∀ x, p ≤ x → x ≤ q → excessAt a b x ≤ M → (D2 * A1 - D1 * A2) + (D2 * B1 - D1 * B2) * x ≤ D1 * D2 * M := fun x h1 h2 hm => by
    have a1 := mul_le _ _ D2 (s1 x h1 h2).2.2.1 (by omega)
    have a2 := mul_le _ _ D1 (s2 x h1 h2).1 (by omega)
    have a3 := mul_le _ _ (D1 * D2) hm (by omega)
    unfold excessAt at a3
    have b1 : D2 * ((At a x).Hi * D1) = D1 * D2 * (At a x).Hi := by rw [Int.mul_comm (At a x).Hi D1, ← Int.mul_assoc, Int.mul_comm D2 D1]
    have b2 : D1 * ((At b x).Lo * D2) = D1 * D2 * (At b x).Lo := by rw [Int.mul_comm (At b x).Lo D2, ← Int.mul_assoc]
    rw [b1, Int.mul_add, ← Int.mul_assoc] at a1
    rw [b2, Int.mul_add, ← Int.mul_assoc] at a2
    rw [Int.mul_sub] at a3
    rw [Int.sub_mul]
    omega
  have k1 := key p (Int.le_refl _) (by omega) ep
  have k2 := key q (by omega) (Int.le_refl _) eq
  have kz := line_le _ _ p q z _ k1 k2 hp hq
  have c1 := s1 z hp hq
  have c2 := s2 z hp hq
  have l1 := mul_le _ _ D2 c1.1 (by omega)
  have l2 := mul_le _ _ D1 c2.2.2.1 (by omega)
  have m1 := Int.mul_lt_mul_of_pos_left c1.2.2.2 d2
  have m2 := Int.mul_lt_mul_of_pos_left c2.2.1 d1
  rw [Int.sub_mul] at kz
  generalize (At a z).Hi = ah at *
  generalize (At a z).Lo = al at *
  generalize (At b z).Hi = bh at *
  generalize (At b z).Lo = bl at *
  have e1 : D2 * (al * D1) = D1 * D2 * al := by rw [Int.mul_comm al D1, ← Int.mul_assoc, Int.mul_comm D2 D1]
  have e2 : D1 * (bh * D2) = D1 * D2 * bh := by rw [Int.mul_comm bh D2, ← Int.mul_assoc]
  have e3 : D2 * ((ah - 1) * D1) = D1 * D2 * (ah - 1) := by rw [Int.mul_comm (ah - 1) D1, ← Int.mul_assoc, Int.mul_comm D2 D1]
  have e4 : D1 * ((bl + 1) * D2) = D1 * D2 * (bl + 1) := by rw [Int.mul_comm (bl + 1) D2, ← Int.mul_assoc]
  rw [e1, Int.mul_add, ← Int.mul_assoc] at l1
  rw [e2, Int.mul_add, ← Int.mul_assoc] at l2
  rw [e3, Int.mul_add, ← Int.mul_assoc] at m1
  rw [e4, Int.mul_add, ← Int.mul_assoc] at m2
  constructor
  · have h : D1 * D2 * (ah - 1 - (bl + 1)) < D1 * D2 * M := by rw [Int.mul_sub]; omega
    have := Int.lt_of_mul_lt_mul_left h (by omega)
    omega
  · have h : D1 * D2 * (al - bh) ≤ D1 * D2 * M := by rw [Int.mul_sub]; omega
    exact Int.le_of_mul_le_mul_left h hD

/-- what is borne at the places of a section is borne at each of its depths -/
theorem extreme_all {a b : List Knot} {lo hi z M : Int} (ha : okLine a = 0) (hb : okLine b = 0) (h0 : 0 ≤ lo) (h2 : hi ≤ 1048576) (hz0 : lo ≤ z) (hz1 : z ≤ hi) (hM : extreme a b lo hi ≤ M) :
    (At a z).Hi - (At b z).Lo ≤ M + 1 ∧ (At a z).Lo - (At b z).Hi ≤ M := by
  obtain ⟨hge, _, _⟩ := extreme_ge ha hb h0 (show lo ≤ hi by omega) h2
  obtain ⟨p, hp, hpz, hpm⟩ := nearest_low (lo :: places a b lo hi) z lo (by simp) hz0
  obtain ⟨q, hq, hqz, hqm⟩ := nearest_high (lo :: places a b lo hi) z hi (by simp [places]) hz1
  have hplo : lo ≤ p := hpm lo (by simp) hz0
  have hqhi : q ≤ hi := hqm hi (by simp [places]) hz1
  have hin : ∀ x, x ∈ (a ++ b).map Knot.At → x ≤ p ∨ q ≤ x := fun x hx => by
    rcases Int.lt_or_le p x with h1 | h1
    · rcases Int.lt_or_le x q with h3 | h3
      · exfalso
        have hm : x ∈ lo :: places a b lo hi := by
          refine List.mem_cons_of_mem _ (List.mem_cons_of_mem _ (List.mem_filter.2 ⟨hx, ?_⟩))
          simp [within]
          omega
        rcases Int.le_total x z with h4 | h4
        · have := hpm x hm h4; omega
        · have := hqm x hm h4; omega
      · exact .inr h3
    · exact .inl h1
  have hka : ∀ i, i < a.length → (kn a i).At ≤ p ∨ q ≤ (kn a i).At := fun i hi => hin _ (List.mem_map.2 ⟨kn a i, List.mem_append.2 (.inl (by simp [kn, hi])), rfl⟩)
  have hkb : ∀ i, i < b.length → (kn b i).At ≤ p ∨ q ≤ (kn b i).At := fun i hi => hin _ (List.mem_map.2 ⟨kn b i, List.mem_append.2 (.inr (by simp [kn, hi])), rfl⟩)
  obtain ⟨D1, A1, B1, s1⟩ := straight_of ha p q hka
  obtain ⟨D2, A2, B2, s2⟩ := straight_of hb p q hkb
  exact straight_pair s1 s2 hpz hqz (Int.le_trans (hge p hp) hM) (Int.le_trans (hge q hq) hM)

theorem needed_ge {q f : Int} (h1 : -68719476736 ≤ q) (h2 : q ≤ 68719476736) (h3 : 1000 ≤ f) (h4 : f ≤ 3000) : q ≤ needed q f := by
  unfold needed
  rw [if_pos (by simp [within]; omega)]
  have := mul_le 1000 f (max q 0) h3 (by omega)
  omega

theorem share_le {c p pull : Int} (hc : 0 ≤ c) (hp : 1 ≤ p) (h0 : 0 ≤ pull) (_h1 : pull ≤ p) : c * (1000 * (p - pull) / p) / 1000 ≤ c := by
  have h : 1000 * (p - pull) / p ≤ 1000 := by
    have : 1000 * (p - pull) / p < 1001 := Int.ediv_lt_of_lt_mul (by omega) (by omega)
    omega
  have := mul_le _ _ c h hc
  omega

/-- a section that bears -/
theorem design_at {j : Job} {l : List Int} {i : Nat} (hC : Chosen j l) (hi : i < l.length) (hw : whyAt j l i = 0) (hp0 : 0 ≤ pullOf j l i) {z : Int} (h0 : top j i ≤ z) (h1 : z ≤ bottom j i) :
    pullOf j l i ≤ (grade j (pick l i)).Pull ∧ ∀ k, k < j.Loads.length →
      ((At (ld j.Loads k).In z).Hi - (At (ld j.Loads k).Out z).Lo ≤ (grade j (pick l i)).Burst + 1 ∧ (At (ld j.Loads k).In z).Lo - (At (ld j.Loads k).Out z).Hi ≤ (grade j (pick l i)).Burst) ∧ ((At (ld j.Loads k).Out z).Hi - (At (ld j.Loads k).In z).Lo ≤ (grade j (pick l i)).Collapse + 1 ∧ (At (ld j.Loads k).Out z).Lo - (At (ld j.Loads k).In z).Hi ≤ (grade j (pick l i)).Collapse) := by
  unfold whyAt why at hw
  split at hw
  · omega
  rename_i hB
  split at hw
  · omega
  rename_i hP
  split at hw
  · omega
  rename_i hO
  have hfair := fair_bounds (hC.fair _ (hC.grades i hi).2)
  have hgd : gd j.Grades (pick l i).toNat = grade j (pick l i) := rfl
  rw [hgd] at hfair
  refine ⟨by omega, fun k hk => ?_⟩
  have hld : ld j.Loads k = j.Loads[k] := by simp [ld, hk]
  have hmem : ld j.Loads k ∈ j.Loads := by rw [hld]; exact List.getElem_mem hk
  obtain ⟨o1, o2⟩ := hC.loads k hk
  have hie : i < j.Ends.length := by rw [← hC.same]; exact hi
  have ht0 : 0 ≤ top j i := hC.top0 i hie
  have htb : top j i < bottom j i := hC.up i hie
  have hb2 : bottom j i ≤ 1048576 := (hC.ends i hie).2
  have hsh := share_le (c := (grade j (pick l i)).Collapse) (p := (grade j (pick l i)).Pull) (pull := pullOf j l i) (by omega) (by omega) hp0 (by omega)
  generalize (grade j (pick l i)).Collapse * (1000 * ((grade j (pick l i)).Pull - pullOf j l i) / (grade j (pick l i)).Pull) / 1000 = sh at *
  simp only [whyBurst, whyCollapse, Bool.not_eq_true, List.any_eq_false, decide_eq_true_eq] at hB hO
  have b1 := hB _ hmem
  have b2 := hO _ hmem
  obtain ⟨_, e1, e2⟩ := extreme_ge o1 o2 ht0 (show top j i ≤ bottom j i by omega) hb2
  obtain ⟨_, e3, e4⟩ := extreme_ge o2 o1 ht0 (show top j i ≤ bottom j i by omega) hb2
  have n1 := needed_ge e1 e2 hC.factor.1 hC.factor.2
  have n2 := needed_ge e3 e4 hC.factor.1 hC.factor.2
  have u1 : inside (ld j.Loads k) (top j i) (bottom j i) = extreme (ld j.Loads k).In (ld j.Loads k).Out (top j i) (bottom j i) := rfl
  have u2 : outside (ld j.Loads k) (top j i) (bottom j i) = extreme (ld j.Loads k).Out (ld j.Loads k).In (top j i) (bottom j i) := rfl
  rw [u1] at b1
  rw [u2] at b2
  exact ⟨extreme_all o1 o2 ht0 hb2 h0 h1 (by omega), extreme_all o2 o1 ht0 hb2 h0 h1 (by omega)⟩

end Mpl
