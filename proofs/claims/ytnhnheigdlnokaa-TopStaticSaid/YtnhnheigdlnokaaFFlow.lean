/- Plain laws of flow: which gradient a flow needs, and what is lost. No Go in sight. -/
import Derived.Test.YtnhnheigdlnokaaFGas
namespace Mpl

/-- the search for the first number for which something is so -/
def bsearch (f : Int → Bool) : Nat → Int → Int → Int
  | 0, lo, _ => lo
  | n + 1, lo, hi => if lo < hi then (if f ((lo + hi) / 2) then bsearch f n lo ((lo + hi) / 2) else bsearch f n ((lo + hi) / 2 + 1) hi) else lo
theorem bsearch_range (f : Int → Bool) (n : Nat) : ∀ lo hi, lo ≤ hi → lo ≤ bsearch f n lo hi ∧ bsearch f n lo hi ≤ hi := by
  induction n with
  | zero => intro lo hi h; simp [bsearch]; omega
  | succ n ih =>
    intro lo hi h
    rw [bsearch]
    split
    · split
      · have := ih lo ((lo + hi) / 2) (by omega); omega
      · have := ih ((lo + hi) / 2 + 1) hi (by omega); omega
    · omega
theorem bsearch_first (f : Int → Bool) (top : Int) (hm : ∀ x y, 0 ≤ x → x ≤ y → y ≤ top → f x = true → f y = true) (n : Nat) : ∀ lo hi, 0 ≤ lo → lo ≤ hi → hi ≤ top → hi - lo ≤ n → f hi = true → (∀ x, 0 ≤ x → x < lo → f x = false) →
    f (bsearch f n lo hi) = true ∧ ∀ x, 0 ≤ x → x < bsearch f n lo hi → f x = false := by
  induction n with
  | zero =>
    intro lo hi h0 h1 h2 h3 h4 h5
    have : lo = hi := by omega
    subst this
    exact ⟨h4, h5⟩
  | succ n ih =>
    intro lo hi h0 h1 h2 h3 h4 h5
    rw [bsearch]
    split
    · split
      · rename_i hf
        exact ih lo _ h0 (by omega) (by omega) (by omega) hf h5
      · rename_i hf
        refine ih _ hi (by omega) (by omega) h2 (by omega) h4 fun x x0 xl => ?_
        cases hx : f x with
        | false => rfl
        | true => exact absurd (hm x ((lo + hi) / 2) x0 (by omega) (by omega) hx) hf
    · have : lo = hi := by omega
      subst this
      exact ⟨h4, h5⟩

/-- the gradient t / gap lets q flow -/
def lets (t y c q : Int) : Prop := y < t ∧ q * (t * t) ≤ c * ((t - y) * (t - y) * (2 * t + y))
theorem cube (t y : Int) : (t - y) * (t - y) * (2 * t + y) = 2 * t * t * t + y * y * y - 3 * y * t * t := by
  simp only [Int.sub_mul, Int.mul_sub, Int.mul_add]
  have e1 : t * t * (2 * t) = 2 * t * t * t := by rw [Int.mul_left_comm, ← Int.mul_assoc, ← Int.mul_assoc]
  have e2 : y * t * (2 * t) = 2 * (y * t * t) := by rw [Int.mul_left_comm]
  have e3 : t * y * (2 * t) = 2 * (y * t * t) := by rw [Int.mul_comm t y, Int.mul_left_comm]
  have e4 : y * y * (2 * t) = 2 * (y * y * t) := by rw [Int.mul_left_comm]
  have e5 : t * t * y = y * t * t := by rw [Int.mul_comm, ← Int.mul_assoc]
  have e6 : y * t * y = y * y * t := by rw [Int.mul_assoc, Int.mul_comm t y, ← Int.mul_assoc]
  have e7 : t * y * y = y * y * t := by rw [Int.mul_comm t y, Int.mul_assoc, Int.mul_comm t y, ← Int.mul_assoc]
  have e8 : 3 * y * t * t = 3 * (y * t * t) := by rw [Int.mul_assoc 3, Int.mul_assoc 3]
  rw [e1, e2, e3, e4, e5, e6, e7, e8]
  omega

theorem flowsG_iff (s : Seg) (m : Mud) (g flow : Int) : flowsG s m g flow = true ↔ flow = 0 ∨ lets (g * s.Gap) m.Yield (s.Gap * s.Area) (flow * m.Visc) := by
  unfold flowsG lets
  rw [cube]
  generalize g * s.Gap = t
  have e1 : 3 * m.Yield * t * t * s.Gap * s.Area = s.Gap * s.Area * (3 * m.Yield * t * t) := by rw [Int.mul_assoc _ s.Gap, Int.mul_comm]
  have e2 : 2 * t * t * t * s.Gap * s.Area = s.Gap * s.Area * (2 * t * t * t) := by rw [Int.mul_assoc _ s.Gap, Int.mul_comm]
  have e3 : m.Yield * m.Yield * m.Yield * s.Gap * s.Area = s.Gap * s.Area * (m.Yield * m.Yield * m.Yield) := by rw [Int.mul_assoc _ s.Gap, Int.mul_comm]
  have e4 : flow * m.Visc * t * t = flow * m.Visc * (t * t) := by rw [Int.mul_assoc]
  rw [e1, e2, e3, e4, Int.mul_sub, Int.mul_add]
  by_cases h : flow = 0
  · simp [h]
  · rw [if_neg h]
    by_cases h2 : t ≤ m.Yield
    · rw [if_pos h2]
      simp [h]
      omega
    · rw [if_neg h2, decide_eq_true_eq]
      constructor
      · intro h3; right; exact ⟨by omega, by omega⟩
      · rintro (h3 | ⟨_, h3⟩)
        · exact absurd h3 h
        · omega

theorem sq_le {a b : Int} (h0 : 0 ≤ a) (h : a ≤ b) : a * a ≤ b * b := by
  have h1 := Int.mul_le_mul_of_nonneg_left h h0
  have h2 := Int.mul_le_mul_of_nonneg_right h (show 0 ≤ b by omega)
  omega
theorem lets_up {t t' y c q : Int} (hy : 0 ≤ y) (hc : 0 ≤ c) (ht : t ≤ t') (h : lets t y c q) : lets t' y c q := by
  obtain ⟨h1, h2⟩ := h
  refine ⟨by omega, ?_⟩
  have a1 : (t - y) * t' ≤ (t' - y) * t := by
    have := Int.mul_le_mul_of_nonneg_left ht hy
    rw [Int.sub_mul, Int.sub_mul, Int.mul_comm t' t]
    omega
  have a2 : 0 ≤ (t - y) * t' := Int.mul_nonneg (by omega) (by omega)
  have a3 := sq_le a2 a1
  have a4 : (t - y) * t' * ((t - y) * t') * (2 * t + y) ≤ (t' - y) * t * ((t' - y) * t) * (2 * t' + y) := by
    have b1 := Int.mul_le_mul_of_nonneg_right a3 (show 0 ≤ 2 * t + y by omega)
    have b2 := Int.mul_le_mul_of_nonneg_left (show 2 * t + y ≤ 2 * t' + y by omega) (show 0 ≤ (t' - y) * t * ((t' - y) * t) from Int.mul_nonneg (by omega) (by omega))
    omega
  have a5 := Int.mul_le_mul_of_nonneg_left a4 hc
  have a6 := Int.mul_le_mul_of_nonneg_right h2 (show 0 ≤ t' * t' from Int.mul_nonneg (by omega) (by omega))
  have tt : 0 < t * t := Int.mul_pos (by omega) (by omega)
  refine Int.le_of_mul_le_mul_right ?_ tt
  have e1 : q * (t * t) * (t' * t') = q * (t' * t') * (t * t) := by rw [Int.mul_assoc, Int.mul_comm (t * t), ← Int.mul_assoc]
  have sw : ∀ a b : Int, a * b * (a * b) = a * a * (b * b) := fun a b => by rw [Int.mul_assoc, Int.mul_left_comm b, ← Int.mul_assoc]
  rw [sw, sw] at a5
  have e2 : c * ((t - y) * (t - y) * (t' * t') * (2 * t + y)) = c * ((t - y) * (t - y) * (2 * t + y)) * (t' * t') := by
    rw [Int.mul_assoc ((t - y) * (t - y)), Int.mul_comm (t' * t'), ← Int.mul_assoc ((t - y) * (t - y)), Int.mul_assoc c]
  have e3 : c * ((t' - y) * (t' - y) * (t * t) * (2 * t' + y)) = c * ((t' - y) * (t' - y) * (2 * t' + y)) * (t * t) := by
    rw [Int.mul_assoc ((t' - y) * (t' - y)), Int.mul_comm (t * t), ← Int.mul_assoc ((t' - y) * (t' - y)), Int.mul_assoc c]
  rw [e2, e3] at a5
  rw [e1] at a6
  omega
theorem lets_yield {t y y' c q : Int} (hy : 0 ≤ y) (hc : 0 ≤ c) (hyy : y ≤ y') (h : lets t y' c q) : lets t y c q := by
  obtain ⟨h1, h2⟩ := h
  refine ⟨by omega, ?_⟩
  have b1 : (t - y') * (t - y') * (2 * t + y') ≤ (t - y) * (t - y) * (2 * t + y) := by
    rw [cube, cube]
    have e : y' * y' * y' - y * y * y = (y' - y) * (y' * y' + y' * y + y * y) := by
      simp only [Int.sub_mul, Int.mul_add]
      have f1 : y' * (y' * y') = y' * y' * y' := (Int.mul_assoc _ _ _).symm
      have f2 : y * (y * y) = y * y * y := (Int.mul_assoc _ _ _).symm
      have f3 : y' * (y' * y) = y * (y' * y') := by rw [Int.mul_left_comm, Int.mul_comm y' y, ← Int.mul_assoc, Int.mul_comm y' y, Int.mul_assoc]
      have f4 : y' * (y * y) = y * (y' * y) := by rw [Int.mul_left_comm]
      omega
    have s1 := sq_le (show 0 ≤ y' by omega) (show y' ≤ t by omega)
    have s2 := sq_le hy (show y ≤ t by omega)
    have s3 : y' * y ≤ t * t := by
      have a := Int.mul_le_mul_of_nonneg_right (show y' ≤ t by omega) hy
      have b := Int.mul_le_mul_of_nonneg_left (show y ≤ t by omega) (show 0 ≤ t by omega)
      omega
    have s4 := Int.mul_le_mul_of_nonneg_left (show y' * y' + y' * y + y * y ≤ 3 * (t * t) by omega) (show 0 ≤ y' - y by omega)
    have s5 : (y' - y) * (3 * (t * t)) = 3 * y' * t * t - 3 * y * t * t := by
      rw [Int.sub_mul, Int.mul_left_comm, Int.mul_left_comm y, Int.mul_assoc 3 y', Int.mul_assoc 3 (y' * t), Int.mul_assoc y', Int.mul_assoc 3 y, Int.mul_assoc 3 (y * t), Int.mul_assoc y]
    omega
  have := Int.mul_le_mul_of_nonneg_left b1 hc
  omega
theorem lets_room {t y c c' q : Int} (hy : 0 ≤ y) (hcc : c ≤ c') (h : lets t y c q) : lets t y c' q := by
  obtain ⟨h1, h2⟩ := h
  have p : 0 ≤ (t - y) * (t - y) * (2 * t + y) := Int.mul_nonneg (Int.mul_nonneg (by omega) (by omega)) (by omega)
  have := Int.mul_le_mul_of_nonneg_right hcc p
  exact ⟨h1, by omega⟩
theorem lets_less {t y c q q' : Int} (hqq : q ≤ q') (h : lets t y c q') : lets t y c q := by
  obtain ⟨h1, h2⟩ := h
  have p : 0 ≤ t * t := by
    rcases Int.le_total 0 t with h | h
    · exact Int.mul_nonneg h h
    · have := Int.mul_nonneg (show 0 ≤ -t by omega) (show 0 ≤ -t by omega)
      rwa [Int.neg_mul_neg] at this
  have := Int.mul_le_mul_of_nonneg_right hqq p
  exact ⟨h1, by omega⟩

structure MudIn (m : Mud) (flow : Int) : Prop where
  y0 : 0 ≤ m.Yield
  y1 : m.Yield ≤ 1000000
  v0 : 1 ≤ m.Visc
  v1 : m.Visc ≤ 1000000
  f0 : 0 ≤ flow
  f1 : flow ≤ 1000000
theorem possible_iff (s : Seg) (m : Mud) (flow : Int) : possible s m flow = true ↔ (GoodSeg s ∧ s.Long ≤ 1048576) ∧ MudIn m flow := by
  rw [possible, Bool.and_eq_true, Bool.and_eq_true, Bool.and_eq_true, goodSeg_iff]
  simp only [within, decide_eq_true_eq]
  constructor
  · rintro ⟨⟨⟨h1, h2⟩, h3⟩, h4⟩; exact ⟨h1, h2.1, h2.2, h3.1, h3.2, h4.1, h4.2⟩
  · rintro ⟨h1, a, b, c, d, e, f⟩; exact ⟨⟨⟨h1, a, b⟩, c, d⟩, e, f⟩

def gradient (s : Seg) (m : Mud) (flow : Int) : Int × Bool :=
  if possible s m flow && flowsG s m 20000 flow then (bsearch (fun g => flowsG s m g flow) 20000 0 20000, true) else (0, false)

theorem flowsG_mono {s : Seg} {m : Mud} {flow : Int} (hs : GoodSeg s) (hm : MudIn m flow) {g g' : Int} (h : g ≤ g') (hf : flowsG s m g flow = true) : flowsG s m g' flow = true := by
  rw [flowsG_iff] at hf ⊢
  rcases hf with h0 | h1
  · exact .inl h0
  · exact .inr (lets_up hm.y0 (Int.mul_nonneg (by have := hs.gap0; omega) (by have := hs.area0; omega)) (Int.mul_le_mul_of_nonneg_right h (by have := hs.gap0; omega)) h1)
theorem gradient_spec {s : Seg} {m : Mud} {flow : Int} (hs : GoodSeg s) (hl : s.Long ≤ 1048576) (hm : MudIn m flow) :
    ((gradient s m flow).2 = flowsG s m 20000 flow) ∧ (0 ≤ (gradient s m flow).1 ∧ (gradient s m flow).1 ≤ 20000) ∧
    ((gradient s m flow).2 = true → flowsG s m (gradient s m flow).1 flow = true ∧ ∀ x, 0 ≤ x → x < (gradient s m flow).1 → flowsG s m x flow = false) := by
  unfold gradient
  rw [(possible_iff s m flow).2 ⟨⟨hs, hl⟩, hm⟩, Bool.true_and]
  cases hf : flowsG s m 20000 flow with
  | false => simp
  | true =>
    rw [if_pos rfl]
    have h1 := bsearch_range (fun g => flowsG s m g flow) 20000 0 20000 (by omega)
    have h2 := bsearch_first (fun g => flowsG s m g flow) 20000 (fun x y _ hxy _ hx => flowsG_mono hs hm hxy hx) 20000 0 20000 (by omega) (by omega) (by omega) (by omega) hf (fun x h0 h1 => by omega)
    exact ⟨rfl, h1, fun _ => h2⟩
theorem gradient_le {s : Seg} {m : Mud} {flow x : Int} (hs : GoodSeg s) (hl : s.Long ≤ 1048576) (hm : MudIn m flow) (hg : (gradient s m flow).2 = true) (h0 : 0 ≤ x) (hx : flowsG s m x flow = true) : (gradient s m flow).1 ≤ x := by
  have h := (gradient_spec hs hl hm).2.2 hg
  rcases Int.lt_or_le x (gradient s m flow).1 with h1 | h1
  · have := h.2 x h0 h1
    rw [this] at hx
    cases hx
  · exact h1

structure Least (s : Seg) (m : Mud) (flow more : Int) : Prop where
  seg : GoodSeg s
  long : s.Long ≤ 1048576
  y0 : 0 ≤ m.Yield
  y1 : m.Yield ≤ 19999
  v0 : 1 ≤ m.Visc
  v1 : m.Visc ≤ 5000
  f0 : 0 ≤ flow
  f1 : flow ≤ 199999
  m0 : 0 ≤ more
  m1 : more ≤ 2999
def wideSeg (s : Seg) (more : Int) : Seg := ⟨s.Long, s.Rise, s.Area, min 200 (s.Gap + more % 50)⟩
theorem wide_good {s : Seg} {more : Int} (h : GoodSeg s) (_hm : 0 ≤ more) : GoodSeg (wideSeg s more) := by
  obtain ⟨h1, h2, h3, h4, h5, h6, h7⟩ := h
  refine ⟨h1, h2, h3, h4, h5, ?_, ?_⟩ <;> simp only [wideSeg] <;> omega
theorem least_laws {s : Seg} {m : Mud} {flow more : Int} (h : Least s m flow more) (hg : (gradient s m flow).2 = true) :
    flowsG s m (gradient s m flow).1 flow = true ∧ ((gradient s m flow).1 > 0 → flowsG s m ((gradient s m flow).1 - 1) flow = false) ∧ (flow > 0 → m.Yield < (gradient s m flow).1 * s.Gap) ∧
    ((gradient s m (flow + more)).2 = true → (gradient s m flow).1 ≤ (gradient s m (flow + more)).1) ∧
    ((gradient s ⟨m.Yield + more, m.Visc⟩ flow).2 = true → (gradient s m flow).1 ≤ (gradient s ⟨m.Yield + more, m.Visc⟩ flow).1) ∧
    ((gradient s ⟨m.Yield, m.Visc + more⟩ flow).2 = true → (gradient s m flow).1 ≤ (gradient s ⟨m.Yield, m.Visc + more⟩ flow).1) ∧
    (gradient (wideSeg s more) m flow).2 = true ∧ (gradient (wideSeg s more) m flow).1 ≤ (gradient s m flow).1 := by
  obtain ⟨hs, hl, y0, y1, v0, v1, f0, f1, m0, m1⟩ := h
  have hm : MudIn m flow := ⟨y0, by omega, v0, by omega, f0, by omega⟩
  have hm1 : MudIn m (flow + more) := ⟨y0, by omega, v0, by omega, by omega, by omega⟩
  have hm2 : MudIn ⟨m.Yield + more, m.Visc⟩ flow := ⟨by show 0 ≤ m.Yield + more; omega, by show m.Yield + more ≤ 1000000; omega, v0, by show m.Visc ≤ 1000000; omega, f0, by omega⟩
  have hm3 : MudIn ⟨m.Yield, m.Visc + more⟩ flow := ⟨y0, by show m.Yield ≤ 1000000; omega, by show 1 ≤ m.Visc + more; omega, by show m.Visc + more ≤ 1000000; omega, f0, by omega⟩
  have hw := wide_good (more := more) hs m0
  have hc : 0 ≤ s.Gap * s.Area := Int.mul_nonneg (by have := hs.gap0; omega) (by have := hs.area0; omega)
  have sp := (gradient_spec hs hl hm).2.2 hg
  have r := (gradient_spec hs hl hm).2.1
  refine ⟨sp.1, fun hp => sp.2 _ (by omega) (by omega), fun hp => ?_, fun h1 => ?_, fun h1 => ?_, fun h1 => ?_, ?_⟩
  · have := (flowsG_iff s m _ flow).1 sp.1
    rcases this with h0 | h0
    · omega
    · exact h0.1
  · have s1 := (gradient_spec hs hl hm1).2.2 h1
    have r1 := (gradient_spec hs hl hm1).2.1
    refine gradient_le hs hl hm hg r1.1 ?_
    rw [flowsG_iff]
    by_cases h0 : flow = 0
    · exact .inl h0
    · rcases (flowsG_iff s m _ _).1 s1.1 with h2 | h2
      · omega
      · exact .inr (lets_less (Int.mul_le_mul_of_nonneg_right (by omega) (by omega)) h2)
  · have s1 := (gradient_spec hs hl hm2).2.2 h1
    have r1 := (gradient_spec hs hl hm2).2.1
    refine gradient_le hs hl hm hg r1.1 ?_
    rw [flowsG_iff]
    rcases (flowsG_iff s _ _ _).1 s1.1 with h2 | h2
    · exact .inl h2
    · exact .inr (lets_yield y0 hc (by show m.Yield ≤ m.Yield + more; omega) h2)
  · have s1 := (gradient_spec hs hl hm3).2.2 h1
    have r1 := (gradient_spec hs hl hm3).2.1
    refine gradient_le hs hl hm hg r1.1 ?_
    rw [flowsG_iff]
    rcases (flowsG_iff s _ _ _).1 s1.1 with h2 | h2
    · exact .inl h2
    · exact .inr (lets_less (Int.mul_le_mul_of_nonneg_left (by show m.Visc ≤ m.Visc + more; omega) f0) h2)
  · have hgap : s.Gap ≤ (wideSeg s more).Gap := by have := hs.gap1; simp only [wideSeg]; omega
    have up : ∀ x, 0 ≤ x → flowsG s m x flow = true → flowsG (wideSeg s more) m x flow = true := fun x hx hf => by
      rw [flowsG_iff] at hf ⊢
      rcases hf with h0 | h0
      · exact .inl h0
      · refine .inr (lets_up y0 (Int.mul_nonneg (by have := hw.gap0; omega) (by have := hw.area0; omega)) (Int.mul_le_mul_of_nonneg_left hgap hx) (lets_room y0 ?_ h0))
        exact Int.mul_le_mul_of_nonneg_right hgap (by have := hs.area0; omega)
    have h20 : flowsG s m 20000 flow = true := by rw [← (gradient_spec hs hl hm).1]; exact hg
    have hwide : (gradient (wideSeg s more) m flow).2 = true := by
      rw [(gradient_spec hw hl hm).1]
      exact up 20000 (by omega) h20
    exact ⟨hwide, gradient_le hw hl hm hwide r.1 (up _ r.1 sp.1)⟩

/-! ### losses -/
def aboveSeg (h : List Seg) (u : Int) (k : Nat) : Int := max 0 (min (segSize (sg h k)) (sizeUp h k + segSize (sg h k) - u))
def lossLo (h : List Seg) (m : Mud) (flow u : Int) (k : Nat) : Int := (gradient (sg h k) m flow).1 * (aboveSeg h u k / (sg h k).Area)
def lossHi (h : List Seg) (m : Mud) (flow u : Int) (k : Nat) : Int := (gradient (sg h k) m flow).1 * upDiv (aboveSeg h u k) (sg h k).Area
def allFlow (h : List Seg) (m : Mud) (flow : Int) (k : Nat) : Bool := (List.range k).all fun i => (gradient (sg h i) m flow).2
def lossOf (h : List Seg) (m : Mud) (flow u : Int) : Rng × Bool :=
  if inHole h u && allFlow h m flow h.length then (⟨sumFrom (lossLo h m flow u) 0 h.length, sumFrom (lossHi h m flow u) 0 h.length⟩, true) else (⟨0, 0⟩, false)
theorem sum_mono (f g : Nat → Int) (n : Nat) (h : ∀ k, k < n → f k ≤ g k) : sumFrom f 0 n ≤ sumFrom g 0 n := by
  induction n with
  | zero => simp [sumFrom]
  | succ n ih => rw [up_step, up_step]; have := ih fun k hk => h k (by omega); have := h n (by omega); omega
theorem sum_zero (f : Nat → Int) (n : Nat) (h : ∀ k, k < n → f k = 0) : sumFrom f 0 n = 0 := by
  induction n with
  | zero => simp [sumFrom]
  | succ n ih => rw [up_step, ih fun k hk => h k (by omega), h n (by omega)]; rfl
theorem grad_nonneg (s : Seg) (m : Mud) (flow : Int) : 0 ≤ (gradient s m flow).1 ∧ (gradient s m flow).1 ≤ 20000 := by
  unfold gradient
  split
  · have := bsearch_range (fun g => flowsG s m g flow) 20000 0 20000 (by omega)
    exact this
  · simp
theorem loss_laws {h : List Seg} (hh : GoodHole h) (m : Mud) (flow : Int) {u v : Int} (hu : 0 ≤ u) (huv : u ≤ v) (hv : v ≤ sizeUp h h.length) :
    (lossOf h m flow u).2 = (lossOf h m flow v).2 ∧ (lossOf h m flow u).2 = (lossOf h m flow (sizeUp h h.length)).2 ∧
    ((lossOf h m flow u).2 = true → (lossOf h m flow v).1.Lo ≤ (lossOf h m flow u).1.Lo ∧ (lossOf h m flow v).1.Hi ≤ (lossOf h m flow u).1.Hi ∧ (lossOf h m flow u).1.Lo ≤ (lossOf h m flow u).1.Hi ∧ 0 ≤ (lossOf h m flow v).1.Lo ∧ (lossOf h m flow (sizeUp h h.length)).1 = ⟨0, 0⟩) := by
  have hc := (checkHole_iff h).2 hh
  have i1 : inHole h u = true := by simp [inHole, hc, within]; omega
  have i2 : inHole h v = true := by simp [inHole, hc, within]; omega
  have i3 : inHole h (sizeUp h h.length) = true := by simp [inHole, hc, within]; omega
  unfold lossOf
  rw [i1, i2, i3, Bool.true_and]
  cases allFlow h m flow h.length with
  | false => simp
  | true =>
    simp only [if_true, true_and]
    intro _
    have ab : ∀ k, k < h.length → aboveSeg h v k ≤ aboveSeg h u k ∧ 0 ≤ aboveSeg h v k := fun k _ => by unfold aboveSeg; omega
    have ar : ∀ k, k < h.length → 0 < (sg h k).Area := fun k hk => by have := (hh.fair k hk).area0; omega
    refine ⟨sum_mono _ _ _ fun k hk => ?_, sum_mono _ _ _ fun k hk => ?_, sum_mono _ _ _ fun k hk => ?_, ?_, ?_⟩
    · exact Int.mul_le_mul_of_nonneg_left (Int.ediv_le_ediv (ar k hk) (ab k hk).1) (grad_nonneg _ _ _).1
    · exact Int.mul_le_mul_of_nonneg_left (upDiv_mono (ab k hk).2 (ab k hk).1 (ar k hk) (Int.le_refl _)) (grad_nonneg _ _ _).1
    · refine Int.mul_le_mul_of_nonneg_left ?_ (grad_nonneg _ _ _).1
      have h0 := ar k hk
      have h1 := (upDiv_spec (aboveSeg h u k) _ h0).1
      have e1 := Int.mul_ediv_add_emod (aboveSeg h u k) (sg h k).Area
      have e2 := Int.emod_nonneg (aboveSeg h u k) (show (sg h k).Area ≠ 0 by omega)
      have c := Int.mul_comm (aboveSeg h u k / (sg h k).Area) (sg h k).Area
      have h2 : aboveSeg h u k / (sg h k).Area * (sg h k).Area ≤ upDiv (aboveSeg h u k) (sg h k).Area * (sg h k).Area := by omega
      exact Int.le_of_mul_le_mul_right h2 h0
    · have := sum_mono (fun _ => 0) (lossLo h m flow v) h.length fun k hk => Int.mul_nonneg (grad_nonneg _ _ _).1 (Int.ediv_nonneg (ab k hk).2 (by have := ar k hk; omega))
      rw [sum_zero _ _ fun _ _ => rfl] at this
      exact this
    · have z : ∀ k, k < h.length → aboveSeg h (sizeUp h h.length) k = 0 := fun k hk => by
        have := sizeUp_mono h hh.fair (k + 1) h.length (by omega) (Nat.le_refl _)
        rw [sizeUp_step] at this
        unfold aboveSeg
        omega
      rw [sum_zero _ _ fun k hk => by unfold lossLo; rw [z k hk]; simp, sum_zero _ _ fun k hk => by
        unfold lossHi upDiv
        rw [z k hk, Int.ediv_eq_zero_of_lt (by have := ar k hk; omega) (by omega)]
        simp]

end Mpl
