/- Plain laws of lines that never fall, and of the pressure in a column. No Go in sight. -/
import Derived.Test.YtnhnheigdlnokaaFHole
namespace Mpl

def NoFall (ks : List Knot) : Prop := ∀ i, i + 1 < ks.length → (kn ks i).V ≤ (kn ks (i + 1)).V
theorem NoFall.le {ks : List Knot} (h : NoFall ks) {i j : Nat} (hij : i ≤ j) (hj : j < ks.length) : (kn ks i).V ≤ (kn ks j).V := by
  induction j with
  | zero => have : i = 0 := by omega
            rw [this]; exact Int.le_refl _
  | succ j ih =>
    by_cases e : i = j + 1
    · rw [e]; exact Int.le_refl _
    · have := ih (by omega) (by omega)
      have := h j hj
      omega

theorem between_ends (a b : Knot) (x : Int) (h1 : a.At < b.At) (h2 : a.At ≤ x) (h3 : x ≤ b.At) (hv : a.V ≤ b.V) : a.V ≤ (between a b x).Lo ∧ (between a b x).Hi ≤ b.V := by
  have hd : 0 < b.At - a.At := by omega
  have hN : 0 ≤ (b.V - a.V) * (x - a.At) := Int.mul_nonneg (by omega) (by omega)
  have hM : (b.V - a.V) * (x - a.At) ≤ (b.V - a.V) * (b.At - a.At) := Int.mul_le_mul_of_nonneg_left (by omega) (by omega)
  have q1 := Int.ediv_nonneg hN (show 0 ≤ b.At - a.At by omega)
  have q2 : -(b.V - a.V) ≤ (-((b.V - a.V) * (x - a.At))) / (b.At - a.At) := Int.le_ediv_of_mul_le hd (by rw [Int.neg_mul]; omega)
  simp only [between]
  omega
theorem between_mono (a b : Knot) (x y : Int) (h1 : a.At < b.At) (hxy : x ≤ y) (hv : a.V ≤ b.V) : (between a b x).Lo ≤ (between a b y).Lo ∧ (between a b x).Hi ≤ (between a b y).Hi := by
  have hd : 0 < b.At - a.At := by omega
  have hM : (b.V - a.V) * (x - a.At) ≤ (b.V - a.V) * (y - a.At) := Int.mul_le_mul_of_nonneg_left (by omega) (by omega)
  have q1 := Int.ediv_le_ediv hd hM
  have q2 := Int.ediv_le_ediv hd (show -((b.V - a.V) * (y - a.At)) ≤ -((b.V - a.V) * (x - a.At)) by omega)
  simp only [between]
  omega

theorem before_mono (ks : List Knot) (x y : Int) (h : x ≤ y) : before x ks ≤ before y ks := by
  induction ks with
  | nil => simp [before]
  | cons k ks ih =>
    rw [before, before]
    split
    · rw [if_pos (by omega)]; omega
    · omega

theorem value_low {ks : List Knot} {a v : Int} (h : GoodLine ks a v) (hn : NoFall ks) (x : Int) (h0 : 0 < before x ks) : (kn ks (before x ks - 1)).V ≤ (value ks x).Lo := by
  have hl := before_le x ks
  unfold value
  rw [if_neg (by omega)]
  split
  · rename_i he
    rw [he]
    exact Int.le_refl _
  · have h1 := h.up (before x ks - 1) (by omega)
    have h2 := hn (before x ks - 1) (by omega)
    rw [show before x ks - 1 + 1 = before x ks by omega] at h1 h2
    have h3 := before_lt x ks (before x ks - 1) (by omega)
    have h4 := before_ge x ks (by omega)
    exact (between_ends _ _ x h1 (by omega) h4 h2).1
theorem value_high {ks : List Knot} {a v : Int} (h : GoodLine ks a v) (hn : NoFall ks) (x : Int) (h0 : before x ks < ks.length) : (value ks x).Hi ≤ (kn ks (before x ks)).V := by
  unfold value
  split
  · rename_i he
    rw [he]
    exact Int.le_refl _
  · rw [if_neg (by omega)]
    have h1 := h.up (before x ks - 1) (by omega)
    have h2 := hn (before x ks - 1) (by omega)
    rw [show before x ks - 1 + 1 = before x ks by omega] at h1 h2
    have h3 := before_lt x ks (before x ks - 1) (by omega)
    have h4 := before_ge x ks (by omega)
    exact (between_ends _ _ x h1 (by omega) h4 h2).2

/-- a line that never falls: both ends of its value grow -/
theorem value_mono {ks : List Knot} {a v : Int} (h : GoodLine ks a v) (hn : NoFall ks) {x y : Int} (hxy : x ≤ y) : (value ks x).Lo ≤ (value ks y).Lo ∧ (value ks x).Hi ≤ (value ks y).Hi := by
  have hb := before_mono ks x y hxy
  have hl := before_le y ks
  by_cases e : before x ks = before y ks
  · unfold value
    rw [e]
    split
    · exact ⟨Int.le_refl _, Int.le_refl _⟩
    · split
      · exact ⟨Int.le_refl _, Int.le_refl _⟩
      · have h1 := h.up (before y ks - 1) (by omega)
        have h2 := hn (before y ks - 1) (by omega)
        rw [show before y ks - 1 + 1 = before y ks by omega] at h1 h2
        exact between_mono _ _ x y h1 hxy h2
  · have h1 := value_high h hn x (by omega)
    have h2 := value_low h hn y (by omega)
    have h3 := hn.le (show before x ks ≤ before y ks - 1 by omega) (by omega)
    have h4 := value_bounds h x
    have h5 := value_bounds h y
    omega

theorem hk_nofall {l : List Seg} (h : GoodHole l) : NoFall (heightKnots l l.length) := by
  intro i hi
  rw [hk_len] at hi
  rw [hk_get _ _ _ (by omega), hk_get _ _ _ (by omega)]
  show riseUp l i ≤ riseUp l (i + 1)
  exact riseUp_mono l h.fair i (i + 1) (by omega) (by omega)
theorem height_mono {l : List Seg} (h : GoodHole l) {x y : Int} (hxy : x ≤ y) : (At (heightOf l) x).Lo ≤ (At (heightOf l) y).Lo ∧ (At (heightOf l) x).Hi ≤ (At (heightOf l) y).Hi := by
  have hr := height_right h
  rw [At, if_pos hr, At, if_pos hr, heightOf_good h]
  exact value_mono (hk_good h) (hk_nofall h) hxy

/-! ### addR -/
theorem addR_le {p : Rng} {w : Int} {h : Rng} (hp : p.Lo ≤ p.Hi) : (addR p w h).Lo ≤ (addR p w h).Hi := by
  simp only [addR]; omega
theorem addR_shift (p : Rng) (w d : Int) (h : Rng) : addR ⟨p.Lo + d, p.Hi + d⟩ w h = ⟨(addR p w h).Lo + d, (addR p w h).Hi + d⟩ := by
  simp only [addR]; congr 1 <;> omega
theorem mulw (w h : Int) (hw0 : -40000 ≤ w) (hw1 : w ≤ 40000) (h0 : 0 ≤ h) (h1 : h ≤ 1048576) : -41943040000 ≤ w * h ∧ w * h ≤ 41943040000 := by
  have a1 : w * h ≤ 40000 * h := Int.mul_le_mul_of_nonneg_right hw1 h0
  have a2 : -40000 * h ≤ w * h := Int.mul_le_mul_of_nonneg_right hw0 h0
  rw [Int.neg_mul] at a2
  omega
theorem addR_bound {p : Rng} {w : Int} {h : Rng} {M : Int} (hw0 : -40000 ≤ w) (hw1 : w ≤ 40000) (h0 : 0 ≤ h.Lo) (h1 : h.Lo ≤ h.Hi) (h2 : h.Hi ≤ 1048576) (p0 : -M ≤ p.Lo) (p1 : p.Hi ≤ M) (p2 : p.Lo ≤ p.Hi) :
    -(M + 41943040000) ≤ (addR p w h).Lo ∧ (addR p w h).Hi ≤ M + 41943040000 ∧ (addR p w h).Lo ≤ (addR p w h).Hi := by
  have a := mulw w h.Lo hw0 hw1 h0 (by omega)
  have b := mulw w h.Hi hw0 hw1 (by omega) h2
  simp only [addR]
  omega

theorem slg_weight {h : List Seg} {l : List Slug} (g : GoodCol h l) (i : Nat) : 0 ≤ (slg l i).Weight ∧ (slg l i).Weight ≤ 40000 := by
  rcases Nat.lt_or_ge i l.length with hi | hi
  · exact g.w0 i hi
  · have : slg l i = ⟨0, 0⟩ := by simp [slg, hi]
    rw [this]; simp
theorem pressUp_bound {h : List Seg} {l : List Slug} (g : GoodCol h l) (top u : Int) (ht0 : 0 ≤ top) (ht1 : top ≤ 68719476736) (k : Nat) :
    -(68719476736 + 41943040000 * ((k : Int) + 1)) ≤ (pressUp h l top u k).2.Lo ∧ (pressUp h l top u k).2.Hi ≤ 68719476736 + 41943040000 * ((k : Int) + 1) ∧ (pressUp h l top u k).2.Lo ≤ (pressUp h l top u k).2.Hi ∧ (pressUp h l top u k).1 ≤ l.length - 1 := by
  induction k with
  | zero =>
    have hr := g.hole.ups h.length (Nat.le_refl _)
    have hw := slg_weight g (l.length - 1)
    have := addR_bound (p := ⟨top, top⟩) (w := (slg l (l.length - 1)).Weight) (h := ⟨riseUp h h.length, riseUp h h.length⟩) (M := 68719476736) (by omega) (by omega) (by show 0 ≤ riseUp h h.length; omega) (Int.le_refl _) (by show riseUp h h.length ≤ 1048576; omega) (by show -68719476736 ≤ top; omega) (by show top ≤ 68719476736; omega) (Int.le_refl _)
    simp only [pressUp]
    omega
  | succ k ih =>
    rw [pressUp]
    split
    · have hw := slg_weight g k
      have hw2 := slg_weight g (k + 1)
      have ha := height_at g.hole (heldUp l (k + 1))
      have := addR_bound (p := (pressUp h l top u k).2) (w := (slg l k).Weight - (slg l (k + 1)).Weight) (h := At (heightOf h) (heldUp l (k + 1))) (M := 68719476736 + 41943040000 * ((k : Int) + 1)) (by omega) (by omega) ha.1 ha.2.1 ha.2.2 ih.1 ih.2.1 ih.2.2.1
      simp only
      omega
    · omega

theorem pressUp_shift (h : List Seg) (l : List Slug) (top d u : Int) (k : Nat) : pressUp h l (top + d) u k = ((pressUp h l top u k).1, ⟨(pressUp h l top u k).2.Lo + d, (pressUp h l top u k).2.Hi + d⟩) := by
  induction k with
  | zero =>
    simp only [pressUp]
    rw [← addR_shift]
  | succ k ih =>
    simp only [pressUp]
    rw [ih]
    split
    · simp only
      rw [addR_shift]
    · rfl
theorem pressAt_shift (h : List Seg) (l : List Slug) (top d u : Int) : pressAt h l (top + d) u = ⟨(pressAt h l top u).Lo + d, (pressAt h l top u).Hi + d⟩ := by
  unfold pressAt
  rw [pressUp_shift, addR_shift]
theorem pressAt_le {h : List Seg} {l : List Slug} (g : GoodCol h l) (top u : Int) (ht0 : 0 ≤ top) (ht1 : top ≤ 68719476736) : (pressAt h l top u).Lo ≤ (pressAt h l top u).Hi :=
  addR_le (pressUp_bound g top u ht0 ht1 _).2.2.1

/-- two places in one slug -/
theorem pressUp_same (h : List Seg) (l : List Slug) (top u v : Int) (k : Nat) (hs : ∀ i, i ≤ k → (u < heldUp l i ↔ v < heldUp l i)) : pressUp h l top u k = pressUp h l top v k := by
  induction k with
  | zero => rfl
  | succ k ih =>
    simp only [pressUp]
    rw [ih fun i hi => hs i (by omega)]
    by_cases hu : u < heldUp l (k + 1)
    · rw [if_pos hu, if_pos ((hs _ (Nat.le_refl _)).1 hu)]
    · rw [if_neg hu, if_neg (fun hv => hu ((hs _ (Nat.le_refl _)).2 hv))]
theorem addR_neg (p : Rng) (w : Int) (a b : Rng) (hw : 0 ≤ w) (ha : a.Lo ≤ a.Hi) (hb : b.Lo ≤ b.Hi) (h1 : a.Lo ≤ b.Lo) (h2 : a.Hi ≤ b.Hi) : (addR p (-w) b).Lo ≤ (addR p (-w) a).Lo ∧ (addR p (-w) b).Hi ≤ (addR p (-w) a).Hi := by
  have m := fun x y (hxy : x ≤ y) => Int.mul_le_mul_of_nonneg_left (a := x) (b := y) hxy hw
  have m1 := m _ _ ha
  have m2 := m _ _ hb
  have m3 := m _ _ h1
  have m4 := m _ _ h2
  simp only [addR, Int.neg_mul]
  omega
theorem deeper {h : List Seg} {l : List Slug} (g : GoodCol h l) (top u low : Int) {i : Nat} (hi : i < l.length) (h1 : heldUp l i ≤ low) (h2 : low ≤ u) (h3 : u < heldUp l (i + 1)) :
    (pressAt h l top u).Lo ≤ (pressAt h l top low).Lo ∧ (pressAt h l top u).Hi ≤ (pressAt h l top low).Hi := by
  have hs : pressUp h l top u (l.length - 1) = pressUp h l top low (l.length - 1) := pressUp_same h l top u low _ fun k hk => by
    rcases Nat.lt_or_ge i k with hik | hik
    · have := (g.held (i + 1) k (by omega) (by omega)).2
      omega
    · have := (g.held k i hik (by omega)).2
      omega
  unfold pressAt
  rw [hs]
  have a := height_at g.hole low
  have b := height_at g.hole u
  have m := height_mono g.hole h2
  exact addR_neg _ _ _ _ (slg_weight g _).1 a.2.1 b.2.1 m.1 m.2

end Mpl
