/- Plain laws of holes: volumes, heights and the height line. No Go in sight. -/
import Derived.Test.YtnhnheigdlnokaaJobs
import Derived.Test.YtnhnheigdlnokaaFSpec
namespace Mpl

structure GoodSeg (s : Seg) : Prop where
  long : 1 ≤ s.Long
  rise0 : 0 ≤ s.Rise
  rise1 : s.Rise ≤ s.Long
  area0 : 1 ≤ s.Area
  area1 : s.Area ≤ 5000
  gap0 : 1 ≤ s.Gap
  gap1 : s.Gap ≤ 200
theorem fairSeg_iff (s : Seg) : fairSeg s = true ↔ GoodSeg s := by
  simp only [fairSeg, within, Bool.and_eq_true, decide_eq_true_eq]
  constructor
  · rintro ⟨⟨⟨h1, h2⟩, h3⟩, h4⟩; exact ⟨h1, h2.1, h2.2, h3.1, h3.2, h4.1, h4.2⟩
  · rintro ⟨h1, h2, h3, h4, h5, h6, h7⟩; exact ⟨⟨⟨h1, h2, h3⟩, h4, h5⟩, h6, h7⟩

structure GoodHole (l : List Seg) : Prop where
  pos : 0 < l.length
  few : l.length ≤ 16
  fair : ∀ i, i < l.length → GoodSeg (sg l i)
  long : longUp l l.length ≤ 1048576

theorem any_seg (l : List Seg) : l.any (fun s => !fairSeg s) = false ↔ ∀ i, i < l.length → GoodSeg (sg l i) := by
  rw [List.any_eq_false]
  constructor
  · intro h i hi
    rw [← fairSeg_iff]
    have := h l[i] (List.getElem_mem hi)
    simpa [sg, hi] using this
  · intro h s hs
    obtain ⟨i, hi, rfl⟩ := List.getElem_of_mem hs
    have := (fairSeg_iff _).2 (h i hi)
    simpa [sg, hi] using this

theorem checkHole_iff (l : List Seg) : checkHole l = 0 ↔ GoodHole l := by
  unfold checkHole
  constructor
  · intro h
    split at h
    · omega
    split at h
    · omega
    split at h
    · omega
    rename_i h3
    split at h
    · omega
    exact ⟨by omega, by omega, (any_seg l).1 (by simpa using h3), by omega⟩
  · intro h
    have := h.pos
    have := h.few
    have := h.long
    rw [if_neg (by omega), if_neg (by omega), if_neg (by rw [(any_seg l).2 h.fair]; simp), if_neg (by omega)]

theorem up_step (f : Nat → Int) (k : Nat) : sumFrom f 0 (k + 1) = sumFrom f 0 k + f k := by rw [sumFrom_last, Nat.zero_add]
theorem sizeUp_step (l : List Seg) (k : Nat) : sizeUp l (k + 1) = sizeUp l k + segSize (sg l k) := up_step _ k
theorem longUp_step (l : List Seg) (k : Nat) : longUp l (k + 1) = longUp l k + (sg l k).Long := up_step _ k
theorem riseUp_step (l : List Seg) (k : Nat) : riseUp l (k + 1) = riseUp l k + (sg l k).Rise := up_step _ k
theorem heldUp_step (l : List Slug) (k : Nat) : heldUp l (k + 1) = heldUp l k + (slg l k).Volume := up_step _ k

theorem seg_size {s : Seg} (h : GoodSeg s) : 1 ≤ segSize s ∧ segSize s ≤ 5000 * s.Long := by
  have a1 : 1 * s.Area ≤ s.Long * s.Area := Int.mul_le_mul_of_nonneg_right h.long (by have := h.area0; omega)
  have a2 : s.Long * s.Area ≤ s.Long * 5000 := Int.mul_le_mul_of_nonneg_left h.area1 (by have := h.long; omega)
  have := h.area0
  unfold segSize
  omega

/-- what holds of the first segments -/
theorem ups (l : List Seg) (h : ∀ i, i < l.length → GoodSeg (sg l i)) (k : Nat) (hk : k ≤ l.length) :
    (k : Int) ≤ longUp l k ∧ 0 ≤ riseUp l k ∧ riseUp l k ≤ longUp l k ∧ (k : Int) ≤ sizeUp l k ∧ sizeUp l k ≤ 5000 * longUp l k := by
  induction k with
  | zero => simp [longUp, riseUp, sizeUp, sumFrom]
  | succ k ih =>
    have h1 := ih (by omega)
    have h2 := h k (by omega)
    have h3 := seg_size h2
    have := h2.long
    have := h2.rise0
    have := h2.rise1
    rw [longUp_step, riseUp_step, sizeUp_step]
    omega
theorem longUp_mono (l : List Seg) (h : ∀ i, i < l.length → GoodSeg (sg l i)) (k n : Nat) (hk : k ≤ n) (hn : n ≤ l.length) : longUp l k ≤ longUp l n := by
  induction n with
  | zero => have : k = 0 := by omega
            rw [this]; exact Int.le_refl _
  | succ n ih =>
    by_cases e : k = n + 1
    · rw [e]; exact Int.le_refl _
    · have := ih (by omega) (by omega)
      have := (h n (by omega)).long
      rw [longUp_step]
      omega
theorem riseUp_mono (l : List Seg) (h : ∀ i, i < l.length → GoodSeg (sg l i)) (k n : Nat) (hk : k ≤ n) (hn : n ≤ l.length) : riseUp l k ≤ riseUp l n := by
  induction n with
  | zero => have : k = 0 := by omega
            rw [this]; exact Int.le_refl _
  | succ n ih =>
    by_cases e : k = n + 1
    · rw [e]; exact Int.le_refl _
    · have := ih (by omega) (by omega)
      have := (h n (by omega)).rise0
      rw [riseUp_step]
      omega
theorem sizeUp_mono (l : List Seg) (h : ∀ i, i < l.length → GoodSeg (sg l i)) (k n : Nat) (hk : k ≤ n) (hn : n ≤ l.length) : sizeUp l k + ((n : Int) - k) ≤ sizeUp l n := by
  induction n with
  | zero => have : k = 0 := by omega
            rw [this]; omega
  | succ n ih =>
    by_cases e : k = n + 1
    · rw [e]; omega
    · have := ih (by omega) (by omega)
      have := (seg_size (h n (by omega))).1
      rw [sizeUp_step]
      omega

theorem GoodHole.ups {l : List Seg} (h : GoodHole l) (k : Nat) (hk : k ≤ l.length) : (k : Int) ≤ longUp l k ∧ longUp l k ≤ 1048576 ∧ 0 ≤ riseUp l k ∧ riseUp l k ≤ longUp l k ∧ (k : Int) ≤ sizeUp l k ∧ sizeUp l k ≤ 5242880000 := by
  have h1 := Mpl.ups l h.fair k hk
  have h2 := longUp_mono l h.fair k l.length hk (Nat.le_refl _)
  have := h.long
  omega
theorem GoodHole.seg {l : List Seg} (h : GoodHole l) {k : Nat} (hk : k < l.length) : (sg l k).Long ≤ 1048576 ∧ 1 ≤ segSize (sg l k) ∧ segSize (sg l k) ≤ 5242880000 := by
  have h1 := h.ups k (by omega)
  have h2 := h.ups (k + 1) (by omega)
  rw [longUp_step] at h2
  have h3 := seg_size (h.fair k hk)
  omega

theorem hk_len (l : List Seg) (k : Nat) : (heightKnots l k).length = k + 1 := by simp [heightKnots]
theorem hk_get (l : List Seg) (k i : Nat) (hi : i ≤ k) : kn (heightKnots l k) i = ⟨sizeUp l i, riseUp l i⟩ := by
  have : i < k + 1 := by omega
  simp [kn, heightKnots, this]
theorem hk_succ (l : List Seg) (k : Nat) : heightKnots l (k + 1) = heightKnots l k ++ [⟨sizeUp l (k + 1), riseUp l (k + 1)⟩] := by
  simp [heightKnots, List.range_succ]
theorem hk_good {l : List Seg} (h : GoodHole l) : GoodLine (heightKnots l l.length) 1099511627776 1048576 := by
  refine ⟨by rw [hk_len]; omega, by rw [hk_len]; have := h.few; omega, ?_, ?_, ?_⟩
  · intro i hi
    rw [hk_len] at hi
    rw [hk_get _ _ _ (by omega)]
    have := h.ups i (by omega)
    show 0 ≤ sizeUp l i ∧ sizeUp l i ≤ 1099511627776
    omega
  · intro i hi
    rw [hk_len] at hi
    rw [hk_get _ _ _ (by omega)]
    have := h.ups i (by omega)
    show 0 ≤ riseUp l i ∧ riseUp l i ≤ 1048576
    omega
  · intro i hi
    rw [hk_len] at hi
    rw [hk_get _ _ _ (by omega), hk_get _ _ _ (by omega)]
    show sizeUp l i < sizeUp l (i + 1)
    rw [sizeUp_step]
    have := (seg_size (h.fair i (by omega))).1
    omega
theorem heightOf_good {l : List Seg} (h : GoodHole l) : heightOf l = heightKnots l l.length := by
  rw [heightOf, if_pos ((checkHole_iff l).2 h)]
theorem height_right {l : List Seg} (h : GoodHole l) : right (heightOf l) = true := by
  rw [heightOf_good h]
  have := good_checkLine (hk_good h) (by omega) (by omega) (by omega) (by omega)
  simp [right, this]
theorem height_at {l : List Seg} (h : GoodHole l) (x : Int) : 0 ≤ (At (heightOf l) x).Lo ∧ (At (heightOf l) x).Lo ≤ (At (heightOf l) x).Hi ∧ (At (heightOf l) x).Hi ≤ 1048576 := by
  have hr := height_right h
  rw [At, if_pos hr, heightOf_good h]
  exact value_bounds (hk_good h) x

/-! ### columns -/
structure GoodCol (h : List Seg) (l : List Slug) : Prop where
  hole : GoodHole h
  pos : 0 < l.length
  few : l.length ≤ 24
  w0 : ∀ i, i < l.length → 0 ≤ (slg l i).Weight ∧ (slg l i).Weight ≤ 40000
  v1 : ∀ i, i < l.length → 1 ≤ (slg l i).Volume
  full : heldUp l l.length = sizeUp h h.length

theorem slg_succ (s : Slug) (l : List Slug) (i : Nat) : slg (s :: l) (i + 1) = slg l i := by simp [slg]
theorem slg_zero (s : Slug) (l : List Slug) : slg (s :: l) 0 = s := by simp [slg]
theorem sumFrom_shift (f : Nat → Int) (i n : Nat) : sumFrom f (i + 1) n = sumFrom (fun k => f (k + 1)) i n := by
  induction n generalizing i with
  | zero => rfl
  | succ n ih => rw [sumFrom, sumFrom, ih]
theorem heldUp_cons (s : Slug) (l : List Slug) (k : Nat) : heldUp (s :: l) (k + 1) = s.Volume + heldUp l k := by
  rw [heldUp, sumFrom, volAt, slg_zero, sumFrom_shift]
  have : (fun k => volAt (s :: l) (k + 1)) = volAt l := by funext i; simp [volAt, slg_succ]
  rw [this]
  rfl
theorem fill_iff (l : List Slug) : ∀ room, (∀ i, i < l.length → 1 ≤ (slg l i).Volume) → 0 ≤ room → (fill room l = 0 ↔ heldUp l l.length = room) := by
  induction l with
  | nil => intro room _ h0; simp [fill, heldUp, sumFrom]; omega
  | cons s l ih =>
    intro room hv h0
    have hv' : ∀ i, i < l.length → 1 ≤ (slg l i).Volume := fun i hi => by
      have := hv (i + 1) (by simpa using hi)
      rwa [slg_succ] at this
    have hs := hv 0 (by simp)
    rw [slg_zero] at hs
    have hsum : 0 ≤ heldUp l l.length := by
      clear ih hv
      have : ∀ k, k ≤ l.length → 0 ≤ heldUp l k := by
        intro k
        induction k with
        | zero => intro _; simp [heldUp, sumFrom]
        | succ k ih => intro hk; have := ih (by omega); have := hv' k (by omega); rw [heldUp_step]; omega
      exact this _ (Nat.le_refl _)
    rw [fill, List.length_cons, heldUp_cons]
    by_cases h : room < s.Volume
    · rw [if_pos h]
      constructor <;> intro <;> omega
    · rw [if_neg h, ih _ hv' (by omega)]
      constructor <;> intro <;> omega

theorem any_slug (l : List Slug) : l.any (fun s => !fairSlug s) = false ↔ ∀ i, i < l.length → (0 ≤ (slg l i).Weight ∧ (slg l i).Weight ≤ 40000) ∧ 1 ≤ (slg l i).Volume := by
  rw [List.any_eq_false]
  constructor
  · intro h i hi
    have := h l[i] (List.getElem_mem hi)
    simpa [slg, hi, fairSlug, within] using this
  · intro h s hs
    obtain ⟨i, hi, rfl⟩ := List.getElem_of_mem hs
    have := h i hi
    simpa [slg, hi, fairSlug, within] using this
theorem checkColumn_iff (h : List Seg) (l : List Slug) : checkColumn h l = 0 ↔ GoodCol h l := by
  unfold checkColumn checkSlugs
  constructor
  · intro hc
    split at hc
    · omega
    rename_i h0
    have hg := (checkHole_iff h).1 (by omega)
    split at hc
    · omega
    split at hc
    · omega
    split at hc
    · omega
    rename_i h3
    have ha := (any_slug l).1 (by simpa using h3)
    exact ⟨hg, by omega, by omega, fun i hi => (ha i hi).1, fun i hi => (ha i hi).2, (fill_iff l _ (fun i hi => (ha i hi).2) (by have := hg.ups h.length (Nat.le_refl _); omega)).1 hc⟩
  · intro g
    have := g.pos
    have := g.few
    rw [if_neg (by simpa using (checkHole_iff h).2 g.hole), if_neg (by omega), if_neg (by omega), if_neg (by rw [(any_slug l).2 fun i hi => ⟨g.w0 i hi, g.v1 i hi⟩]; simp)]
    exact (fill_iff l _ g.v1 (by have := g.hole.ups h.length (Nat.le_refl _); omega)).2 g.full

theorem GoodCol.held {h : List Seg} {l : List Slug} (g : GoodCol h l) (k n : Nat) (hkn : k ≤ n) (hn : n ≤ l.length) : 0 ≤ heldUp l k ∧ heldUp l k + ((n : Int) - k) ≤ heldUp l n := by
  constructor
  · clear hkn hn
    induction k with
    | zero => simp [heldUp, sumFrom]
    | succ k ih =>
      rw [heldUp_step]
      rcases Nat.lt_or_ge k l.length with hk | hk
      · have := g.v1 k hk; omega
      · have : slg l k = ⟨0, 0⟩ := by simp [slg, hk]
        rw [this]
        simpa using ih
  · induction n with
    | zero => have : k = 0 := by omega
              rw [this]; omega
    | succ n ih =>
      by_cases e : k = n + 1
      · rw [e]; omega
      · have := ih (by omega) (by omega)
        have := g.v1 n (by omega)
        rw [heldUp_step]
        omega

end Mpl
