/- Plain laws of pumping: a column told unit by unit. No Go in sight. -/
import Derived.Test.YtgcfplkfclapiaaFHole
namespace Mpl

/-- a column, unit by unit -/
def units (l : List Slug) : List Int := l.flatMap fun s => List.replicate s.Volume.toNat s.Weight
theorem units_nil : units [] = [] := rfl
theorem units_cons (s : Slug) (l : List Slug) : units (s :: l) = List.replicate s.Volume.toNat s.Weight ++ units l := by simp [units]
theorem units_append (a b : List Slug) : units (a ++ b) = units a ++ units b := by simp [units]

def NonNeg (l : List Slug) : Prop := ∀ s ∈ l, 0 ≤ s.Volume
theorem NonNeg.cons {s : Slug} {l : List Slug} (h : NonNeg (s :: l)) : 0 ≤ s.Volume ∧ NonNeg l := ⟨h s (by simp), fun x hx => h x (by simp [hx])⟩

theorem units_stays (room : Int) (l : List Slug) (h : NonNeg l) (h0 : 0 ≤ room) : units (stays room l) = (units l).take room.toNat := by
  induction l generalizing room with
  | nil => simp [stays, units]
  | cons s l ih =>
    obtain ⟨h1, h2⟩ := h.cons
    rw [stays, units_cons, units_cons, ih _ h2 (by omega), List.take_append, List.take_replicate, List.length_replicate]
    congr 1
    · congr 1
      simp only
      omega
    · congr 1
      omega
theorem units_goes (room : Int) (l : List Slug) (h : NonNeg l) (h0 : 0 ≤ room) : units (goes room l) = (units l).drop room.toNat := by
  induction l generalizing room with
  | nil => simp [goes, units]
  | cons s l ih =>
    obtain ⟨h1, h2⟩ := h.cons
    rw [goes, units_cons, units_cons, ih _ h2 (by omega), List.drop_append, List.drop_replicate, List.length_replicate]
    congr 1
    · congr 1
      simp only
      omega
    · congr 1
      omega
theorem stays_nonneg (room : Int) (l : List Slug) (h : NonNeg l) (h0 : 0 ≤ room) : NonNeg (stays room l) := by
  induction l generalizing room with
  | nil => intro s hs; simp [stays] at hs
  | cons s l ih =>
    obtain ⟨h1, h2⟩ := h.cons
    intro x hx
    rw [stays] at hx
    rcases List.mem_cons.1 hx with rfl | hx
    · simp only; omega
    · exact ih _ h2 (by omega) x hx
theorem goes_nonneg (room : Int) (l : List Slug) (h : NonNeg l) (h0 : 0 ≤ room) : NonNeg (goes room l) := by
  induction l generalizing room with
  | nil => intro s hs; simp [goes] at hs
  | cons s l ih =>
    obtain ⟨h1, h2⟩ := h.cons
    intro x hx
    rw [goes] at hx
    rcases List.mem_cons.1 hx with rfl | hx
    · simp only; omega
    · exact ih _ h2 (by omega) x hx
theorem stays_length (room : Int) (l : List Slug) : (stays room l).length = l.length := by
  induction l generalizing room with
  | nil => rfl
  | cons s l ih => simp [stays, ih]
theorem goes_length (room : Int) (l : List Slug) : (goes room l).length = l.length := by
  induction l generalizing room with
  | nil => rfl
  | cons s l ih => simp [goes, ih]

/-- nothing empty, no neighbours of one weight -/
def IsPlain : List Slug → Prop
  | [] => True
  | [s] => 1 ≤ s.Volume
  | s :: t :: l => 1 ≤ s.Volume ∧ s.Weight ≠ t.Weight ∧ IsPlain (t :: l)
theorem IsPlain.head {s : Slug} {l : List Slug} (h : IsPlain (s :: l)) : 1 ≤ s.Volume := by
  cases l with
  | nil => exact h
  | cons t l => exact h.1
theorem IsPlain.tail {s : Slug} {l : List Slug} (h : IsPlain (s :: l)) : IsPlain l := by
  cases l with
  | nil => trivial
  | cons t l => exact h.2.2
theorem IsPlain.nonneg {l : List Slug} (h : IsPlain l) : NonNeg l := by
  induction l with
  | nil => intro s hs; cases hs
  | cons s l ih =>
    intro x hx
    rcases List.mem_cons.1 hx with rfl | hx
    · have := h.head; omega
    · exact ih h.tail x hx

theorem plain_first {s : Slug} {l : List Slug} (h : IsPlain (s :: l)) : (units (s :: l)).head? = some s.Weight := by
  have := h.head
  rw [units_cons]
  obtain ⟨n, hn⟩ : ∃ n, s.Volume.toNat = n + 1 := ⟨s.Volume.toNat - 1, by omega⟩
  rw [hn, List.replicate_succ]
  rfl

theorem rep_split (a b : Nat) (x : Int) (A B : List Int) (h : List.replicate a x ++ A = List.replicate b x ++ B) (hA : A.head? ≠ some x) (hB : B.head? ≠ some x) : a = b ∧ A = B := by
  induction a generalizing b with
  | zero =>
    cases b with
    | zero => exact ⟨rfl, by simpa using h⟩
    | succ b =>
      rw [List.replicate_zero, List.nil_append, List.replicate_succ] at h
      rw [h] at hA
      exact absurd rfl hA
  | succ a ih =>
    cases b with
    | zero =>
      rw [List.replicate_zero, List.nil_append, List.replicate_succ] at h
      rw [← h] at hB
      exact absurd rfl hB
    | succ b =>
      rw [List.replicate_succ, List.replicate_succ, List.cons_append, List.cons_append] at h
      injection h with _ h
      obtain ⟨h1, h2⟩ := ih b h
      exact ⟨by omega, h2⟩

theorem plain_next {s : Slug} {l : List Slug} (h : IsPlain (s :: l)) : (units l).head? ≠ some s.Weight := by
  cases l with
  | nil => simp [units]
  | cons t l =>
    rw [plain_first h.2.2]
    intro he
    injection he with he
    exact h.2.1 he.symm

/-- a plain column is told by its units -/
theorem plain_unique (p q : List Slug) (hp : IsPlain p) (hq : IsPlain q) (h : units p = units q) : p = q := by
  induction p generalizing q with
  | nil =>
    cases q with
    | nil => rfl
    | cons s q =>
      have := plain_first hq
      rw [← h] at this
      simp [units] at this
  | cons s p ih =>
    cases q with
    | nil =>
      have := plain_first hp
      rw [h] at this
      simp [units] at this
    | cons t q =>
      have h1 := plain_first hp
      have h2 := plain_first hq
      rw [h, h2] at h1
      injection h1 with hw
      rw [units_cons, units_cons, ← hw] at h
      have hn := plain_next hp
      rw [← hw] at hn
      obtain ⟨h3, h4⟩ := rep_split _ _ _ _ _ h hn (plain_next hq)
      have h5 := hp.head
      have h6 := hq.head
      rw [ih q hp.tail hq.tail h4]
      congr 1
      cases s
      cases t
      simp only at hw h3 h5 h6
      simp only [Slug.mk.injEq]
      exact ⟨hw.symm, by omega⟩

/-- all that may be added -/
def Small (l : List Slug) : Prop := ∀ s ∈ l, 0 ≤ s.Volume ∧ s.Volume ≤ 1099511627776

theorem plain_snoc (out : List Slug) (s : Slug) (h : IsPlain out) (hs : 1 ≤ s.Volume) (hw : ∀ t, out.getLast? = some t → t.Weight ≠ s.Weight) : IsPlain (out ++ [s]) := by
  induction out with
  | nil => exact hs
  | cons a out ih =>
    cases out with
    | nil => exact ⟨h, hw a rfl, hs⟩
    | cons b out => exact ⟨h.1, h.2.1, ih h.2.2 (fun t ht => hw t (by rw [List.getLast?_cons_cons]; exact ht))⟩
theorem plain_grow (out : List Slug) (t : Slug) (v : Int) (h : IsPlain (out ++ [t])) (hv : 0 ≤ v) : IsPlain (out ++ [⟨t.Weight, t.Volume + v⟩]) := by
  induction out with
  | nil => have : 1 ≤ t.Volume := h; show 1 ≤ t.Volume + v; omega
  | cons a out ih =>
    cases out with
    | nil => exact ⟨h.1, h.2.1, by have : 1 ≤ t.Volume := h.2.2; show 1 ≤ t.Volume + v; omega⟩
    | cons b out => exact ⟨h.1, h.2.1, ih h.2.2⟩

theorem plainAdd_spec (out : List Slug) (s : Slug) (h : IsPlain out) (h0 : 0 ≤ s.Volume) (h1 : s.Volume ≤ 1099511627776) : IsPlain (plainAdd out s) ∧ units (plainAdd out s) = units out ++ List.replicate s.Volume.toNat s.Weight := by
  unfold plainAdd
  by_cases hv : 1 ≤ s.Volume
  · rw [if_pos (by simp [within]; omega)]
    cases hl : out.getLast? with
    | none =>
      have : out = [] := by simpa using hl
      subst this
      exact ⟨hv, by simp [units]⟩
    | some t =>
      simp only
      split
      · rename_i hw
        have ht : out ≠ [] := by intro e; rw [e] at hl; cases hl
        have he : out.dropLast ++ [t] = out := by
          rw [List.getLast?_eq_some_getLast ht] at hl
          injection hl with hl
          rw [← hl]
          exact List.dropLast_concat_getLast ht
        rw [← he] at h
        have h2 := h.nonneg t (by simp)
        refine ⟨plain_grow _ _ _ h h0, ?_⟩
        conv => rhs; rw [← he]
        rw [units_append, units_append, List.append_assoc]
        congr 1
        rw [units_cons, units_cons, units_nil, List.append_nil, List.append_nil, ← hw]
        simp only
        rw [List.replicate_append_replicate]
        congr 1
        omega
      · rename_i hw
        refine ⟨plain_snoc _ _ h hv (fun t' ht' => ?_), by rw [units_append]; simp [units]⟩
        rw [hl] at ht'
        injection ht' with ht'
        rw [← ht']
        exact hw
  · have hz : s.Volume = 0 := by omega
    rw [if_neg (by simp [within]; omega), hz]
    exact ⟨h, by simp⟩

theorem plainFold_spec (l : List Slug) (hl : Small l) (out : List Slug) (h : IsPlain out) : IsPlain (l.foldl plainAdd out) ∧ units (l.foldl plainAdd out) = units out ++ units l := by
  induction l generalizing out with
  | nil => exact ⟨h, by simp [units]⟩
  | cons s l ih =>
    have hs := hl s (by simp)
    have h1 := plainAdd_spec out s h hs.1 hs.2
    have h2 := ih (fun x hx => hl x (by simp [hx])) _ h1.1
    refine ⟨h2.1, ?_⟩
    rw [List.foldl_cons, h2.2, h1.2, units_cons, List.append_assoc]
theorem plainOf_spec (l : List Slug) (hl : Small l) : IsPlain (plainOf l) ∧ units (plainOf l) = units l := by
  have := plainFold_spec l hl [] trivial
  exact ⟨this.1, this.2.trans (List.nil_append _)⟩

theorem plainAdd_length (out : List Slug) (s : Slug) : (plainAdd out s).length ≤ out.length + 1 := by
  unfold plainAdd
  split
  · split
    · simp
    · split
      · simp
      · simp
  · omega
theorem plainOf_length (l : List Slug) : (plainOf l).length ≤ l.length := by
  have : ∀ (l out : List Slug), (l.foldl plainAdd out).length ≤ out.length + l.length := by
    intro l
    induction l with
    | nil => intro out; simp
    | cons s l ih => intro out; have h1 := ih (plainAdd out s); have h2 := plainAdd_length out s; simp only [List.foldl_cons, List.length_cons]; omega
  simpa [plainOf] using this l []

/-- the volume of a column -/
def total (l : List Slug) : Int := (l.map Slug.Volume).sum
theorem total_units (l : List Slug) (h : NonNeg l) : total l = (units l).length := by
  induction l with
  | nil => rfl
  | cons s l ih =>
    obtain ⟨h1, h2⟩ := h.cons
    have := ih h2
    rw [units_cons]
    simp only [total, List.map_cons, List.sum_cons, List.length_append, List.length_replicate] at *
    omega
theorem total_nonneg (l : List Slug) (h : NonNeg l) : 0 ≤ total l := by rw [total_units l h]; omega
theorem total_mem (l : List Slug) (h : NonNeg l) (s : Slug) (hs : s ∈ l) : s.Volume ≤ total l := by
  induction l with
  | nil => cases hs
  | cons a l ih =>
    obtain ⟨h1, h2⟩ := h.cons
    have h3 := total_nonneg l h2
    have e : total (a :: l) = a.Volume + total l := by simp [total]
    rw [e]
    rcases List.mem_cons.1 hs with rfl | hs
    · omega
    · have := ih h2 hs; omega

theorem fill_zero (l : List Slug) (left : Int) (h : NonNeg l) (ht : total l = left) : fill left l = 0 := by
  induction l generalizing left with
  | nil =>
    have : left = 0 := by simpa [total] using ht.symm
    rw [fill, this]
    rfl
  | cons s l ih =>
    obtain ⟨h1, h2⟩ := h.cons
    have h3 := total_nonneg l h2
    have e : total (s :: l) = s.Volume + total l := by simp [total]
    rw [fill, if_neg (by omega)]
    exact ih _ h2 (by omega)
theorem fill_total (l : List Slug) (left : Int) (h0 : 0 ≤ left) (h : fill left l = 0) : total l = left := by
  induction l generalizing left with
  | nil =>
    rw [fill] at h
    split at h
    · omega
    · simp [total]; omega
  | cons s l ih =>
    rw [fill] at h
    split at h
    · omega
    · have := ih _ (by omega) h
      have e : total (s :: l) = s.Volume + total l := by simp [total]
      omega

theorem total_held (l : List Slug) : total l = heldUp l l.length := by
  induction l with
  | nil => rfl
  | cons s l ih =>
    rw [List.length_cons, heldUp_cons, ← ih]
    simp [total]
theorem mem_slg {l : List Slug} {s : Slug} (h : s ∈ l) : ∃ i, i < l.length ∧ slg l i = s := by
  obtain ⟨i, hi, rfl⟩ := List.getElem_of_mem h
  exact ⟨i, hi, by simp [slg, hi]⟩
theorem slg_mem {l : List Slug} {i : Nat} (h : i < l.length) : slg l i ∈ l := by simp [slg, h]
theorem GoodCol.nonneg {h : List Seg} {l : List Slug} (g : GoodCol h l) : NonNeg l := fun s hs => by
  obtain ⟨i, hi, rfl⟩ := mem_slg hs
  have := g.v1 i hi
  omega
theorem mem_units {l : List Slug} {s : Slug} (h : s ∈ l) (h1 : 1 ≤ s.Volume) : s.Weight ∈ units l := by
  unfold units
  rw [List.mem_flatMap]
  exact ⟨s, h, by rw [List.mem_replicate]; exact ⟨by omega, rfl⟩⟩
theorem units_mem {l : List Slug} {x : Int} (h : x ∈ units l) : ∃ s ∈ l, s.Weight = x := by
  unfold units at h
  rw [List.mem_flatMap] at h
  obtain ⟨s, hs, hx⟩ := h
  rw [List.mem_replicate] at hx
  exact ⟨s, hs, hx.2.symm⟩
theorem plain_vol {l : List Slug} (h : IsPlain l) : ∀ s ∈ l, 1 ≤ s.Volume := by
  induction l with
  | nil => intro s hs; cases hs
  | cons s l ih =>
    intro x hx
    rcases List.mem_cons.1 hx with rfl | hx
    · exact h.head
    · exact ih h.tail x hx
theorem small_of_total {l : List Slug} (h : NonNeg l) (ht : total l ≤ 1099511627776) : Small l := fun s hs => ⟨h s hs, by have := total_mem l h s hs; omega⟩

/-- a slug that may be pumped -/
structure Pumps (h : List Seg) (s : Slug) : Prop where
  w0 : 0 ≤ s.Weight
  w1 : s.Weight ≤ 40000
  v1 : 1 ≤ s.Volume
  v2 : s.Volume ≤ sizeUp h h.length

theorem pump_good {h : List Seg} {l : List Slug} {s : Slug} (g : GoodCol h l) (hl : l.length ≤ 23) (hs : Pumps h s) :
    pump h l s = (plainOf (stays (sizeUp h h.length) (s :: l)), plainOf (goes (sizeUp h h.length) (s :: l)), 0) ∧
    IsPlain (pump h l s).1 ∧ IsPlain (pump h l s).2.1 ∧
    units (pump h l s).1 = (units (s :: l)).take (sizeUp h h.length).toNat ∧ units (pump h l s).2.1 = (units (s :: l)).drop (sizeUp h h.length).toNat ∧
    (pump h l s).1.length ≤ l.length + 1 := by
  have hV := (g.hole.ups h.length (Nat.le_refl _)).2.2.2.2
  have hn : NonNeg (s :: l) := fun x hx => by
    rcases List.mem_cons.1 hx with rfl | hx
    · have := hs.v1; omega
    · exact g.nonneg x hx
  have hV0 : 0 ≤ sizeUp h h.length := by have := hV.1; omega
  have n1 := stays_nonneg (sizeUp h h.length) (s :: l) hn hV0
  have n2 := goes_nonneg (sizeUp h h.length) (s :: l) hn hV0
  have u1 := units_stays (sizeUp h h.length) (s :: l) hn hV0
  have u2 := units_goes (sizeUp h h.length) (s :: l) hn hV0
  have tl : total l = sizeUp h h.length := by rw [total_held]; exact g.full
  have ts : total (s :: l) = s.Volume + sizeUp h h.length := by rw [← tl]; simp [total]
  have t0 := total_units (s :: l) hn
  have t1 : total (stays (sizeUp h h.length) (s :: l)) ≤ 1099511627776 := by
    rw [total_units _ n1, u1, List.length_take]
    have := hV.2
    omega
  have t2 : total (goes (sizeUp h h.length) (s :: l)) ≤ 1099511627776 := by
    rw [total_units _ n2, u2, List.length_drop]
    have := hV.2
    have := hs.v2
    omega
  have p1 := plainOf_spec _ (small_of_total n1 t1)
  have p2 := plainOf_spec _ (small_of_total n2 t2)
  have len := plainOf_length (stays (sizeUp h h.length) (s :: l))
  rw [stays_length, List.length_cons] at len
  have he : pump h l s = (plainOf (stays (sizeUp h h.length) (s :: l)), plainOf (goes (sizeUp h h.length) (s :: l)), 0) := by
    unfold pump
    have hw0 := hs.w0
    have hw1 := hs.w1
    have hv1 := hs.v1
    have hv2 := hs.v2
    rw [if_neg (by simp [(checkColumn_iff h l).2 g]), if_pos (by simp [within]; omega), if_neg (by omega)]
  rw [he]
  exact ⟨rfl, p1.1, p2.1, p1.2.trans u1, p2.2.trans u2, len⟩

theorem pump_column {h : List Seg} {l : List Slug} {s : Slug} (g : GoodCol h l) (hl : l.length ≤ 23) (hs : Pumps h s) :
    GoodCol h (pump h l s).1 ∧ total (pump h l s).2.1 = s.Volume ∧ plainOf (pump h l s).1 = (pump h l s).1 ∧ plainOf (pump h l s).2.1 = (pump h l s).2.1 ∧
    (slg (pump h l s).1 0).Weight = s.Weight ∧ s.Volume ≤ (slg (pump h l s).1 0).Volume := by
  obtain ⟨_, p1, p2, u1, u2, len⟩ := pump_good g hl hs
  have hV := (g.hole.ups h.length (Nat.le_refl _)).2.2.2.2
  have hn : NonNeg (s :: l) := fun x hx => by
    rcases List.mem_cons.1 hx with rfl | hx
    · have := hs.v1; omega
    · exact g.nonneg x hx
  have tl : total l = sizeUp h h.length := by rw [total_held]; exact g.full
  have ts : total (s :: l) = s.Volume + sizeUp h h.length := by rw [← tl]; simp [total]
  have t0 := total_units (s :: l) hn
  have hv1 := hs.v1
  have hv2 := hs.v2
  generalize (pump h l s).1 = P at *
  generalize (pump h l s).2.1 = O at *
  have tP : total P = sizeUp h h.length := by
    rw [total_units _ p1.nonneg, u1, List.length_take]
    omega
  have tO : total O = s.Volume := by
    rw [total_units _ p2.nonneg, u2, List.length_drop]
    omega
  have sP := small_of_total p1.nonneg (by have := hV.2; omega)
  have sO := small_of_total p2.nonneg (by have := hV.2; omega)
  have iP := plainOf_spec _ sP
  have iO := plainOf_spec _ sO
  have hpos : 0 < P.length := by
    cases P with
    | nil => simp [total] at tP; have := hV.1; have := g.hole.pos; omega
    | cons a P => simp
  refine ⟨⟨g.hole, hpos, by omega, fun i hi => ?_, fun i hi => plain_vol p1 _ (slg_mem hi), by rw [← total_held]; exact tP⟩, tO, plain_unique _ _ iP.1 p1 iP.2, plain_unique _ _ iO.1 p2 iO.2, ?_⟩
  · have hm := mem_units (slg_mem hi) (plain_vol p1 _ (slg_mem hi))
    rw [u1] at hm
    obtain ⟨x, hx, hw⟩ := units_mem (List.mem_of_mem_take hm)
    rw [← hw]
    rcases List.mem_cons.1 hx with rfl | hx
    · exact ⟨hs.w0, hs.w1⟩
    · obtain ⟨k, hk, rfl⟩ := mem_slg hx
      exact g.w0 k hk
  · cases P with
    | nil => simp at hpos
    | cons a P =>
      rw [slg_zero]
      have hh := plain_first p1
      rw [u1, units_cons, List.take_append, List.take_replicate, List.length_replicate, show min (sizeUp h h.length).toNat s.Volume.toNat = s.Volume.toNat by omega] at hh
      obtain ⟨n, hn1⟩ : ∃ n, s.Volume.toNat = n + 1 := ⟨s.Volume.toNat - 1, by omega⟩
      have hw : s.Weight = a.Weight := by
        rw [hn1, List.replicate_succ] at hh
        simpa using hh
      refine ⟨hw.symm, ?_⟩
      have e := u1
      rw [units_cons, units_cons, List.take_append, List.take_replicate, List.length_replicate, show min (sizeUp h h.length).toNat s.Volume.toNat = s.Volume.toNat by omega, hw] at e
      have hnx := plain_next p1
      rcases Int.lt_or_le a.Volume s.Volume with hlt | hle
      · exfalso
        obtain ⟨m, hm⟩ : ∃ m, s.Volume.toNat = a.Volume.toNat + (m + 1) := ⟨s.Volume.toNat - a.Volume.toNat - 1, by omega⟩
        rw [hm, ← List.replicate_append_replicate, List.append_assoc] at e
        have e2 := List.append_cancel_left e
        rw [e2, List.replicate_succ] at hnx
        exact hnx rfl
      · exact hle

theorem pump_twice {h : List Seg} {l : List Slug} {s t : Slug} (g : GoodCol h l) (hl : l.length ≤ 22) (hs : Pumps h s) (ht : Pumps h t) :
    units (pump h (pump h l s).1 t).1 = (List.replicate t.Volume.toNat t.Weight ++ (List.replicate s.Volume.toNat s.Weight ++ units l)).take (sizeUp h h.length).toNat := by
  have g1 := pump_good g (by omega) hs
  have c1 := pump_column g (by omega) hs
  have g2 := pump_good c1.1 (by have := g1.2.2.2.2.2; omega) ht
  rw [g2.2.2.2.1, units_cons, g1.2.2.2.1, units_cons, List.take_append, List.take_take, List.take_append (l₁ := List.replicate t.Volume.toNat t.Weight)]
  congr 2
  omega

theorem pump_order {h : List Seg} {l : List Slug} {s t : Slug} (g : GoodCol h l) (hl : l.length ≤ 21) (hs : Pumps h s) (ht : Pumps h t) (hw : s.Weight = t.Weight) :
    (pump h l s).2.2 = 0 ∧ (pump h l t).2.2 = 0 ∧ (pump h (pump h l s).1 t).2.2 = 0 ∧ (pump h (pump h l t).1 s).2.2 = 0 ∧ (pump h (pump h l s).1 t).1 = (pump h (pump h l t).1 s).1 := by
  have g1 := pump_good g (by omega) hs
  have c1 := pump_column g (by omega) hs
  have g2 := pump_good c1.1 (by have := g1.2.2.2.2.2; omega) ht
  have k1 := pump_good g (by omega) ht
  have d1 := pump_column g (by omega) ht
  have k2 := pump_good d1.1 (by have := k1.2.2.2.2.2; omega) hs
  refine ⟨by rw [g1.1], by rw [k1.1], by rw [g2.1], by rw [k2.1], plain_unique _ _ g2.2.1 k2.2.1 ?_⟩
  rw [pump_twice g (by omega) hs ht, pump_twice g (by omega) ht hs, hw, ← List.append_assoc, ← List.append_assoc, List.replicate_append_replicate, List.replicate_append_replicate, Nat.add_comm]

end Mpl
