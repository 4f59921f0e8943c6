/- Plain laws of gas and cuttings. No Go in sight. -/
import Derived.Test.YtnhnheigdlnokaaFHole
namespace Mpl

theorem upDiv_spec (a b : Int) (hb : 0 < b) : a ≤ upDiv a b * b ∧ (upDiv a b - 1) * b < a := by
  unfold upDiv
  have e1 := Int.mul_ediv_add_emod (a + b - 1) b
  have e2 := Int.emod_nonneg (a + b - 1) (show b ≠ 0 by omega)
  have e3 := Int.emod_lt_of_pos (a + b - 1) hb
  have c := Int.mul_comm ((a + b - 1) / b) b
  rw [Int.sub_mul, Int.one_mul]
  omega
theorem upDiv_le {a b q : Int} (hb : 0 < b) (h : a ≤ q * b) : upDiv a b ≤ q := by
  have := (upDiv_spec a b hb).2
  have h2 : (upDiv a b - 1) * b < q * b := by omega
  have := Int.lt_of_mul_lt_mul_right h2 (by omega)
  omega
theorem upDiv_nonneg {a b : Int} (ha : 0 ≤ a) (hb : 0 < b) : 0 ≤ upDiv a b := by
  unfold upDiv
  exact Int.ediv_nonneg (by omega) (by omega)
theorem upDiv_mono {a a' b b' : Int} (ha : 0 ≤ a') (h : a' ≤ a) (hb : 0 < b) (hb' : b ≤ b') : upDiv a' b' ≤ upDiv a b := by
  have h1 := (upDiv_spec a b hb).1
  have h2 := upDiv_nonneg (show 0 ≤ a by omega) hb
  have h3 := Int.mul_le_mul_of_nonneg_left hb' h2
  exact upDiv_le (by omega) (by omega)

structure GasIn (g : Gas) : Prop where
  k0 : 0 ≤ g.K
  k1 : g.K ≤ 1152921504606846976
  p0 : 0 ≤ g.Power
  p1 : g.Power ≤ 1099511627776
theorem gasOk_iff (g : Gas) : gasOk g = true ↔ GasIn g := by
  simp only [gasOk, within, Bool.and_eq_true, decide_eq_true_eq]
  exact ⟨fun ⟨h1, h2⟩ => ⟨h1.1, h1.2, h2.1, h2.2⟩, fun h => ⟨⟨h.k0, h.k1⟩, h.p0, h.p1⟩⟩

theorem free_eq {g : Gas} (h : GasIn g) {p : Int} (h0 : 1 ≤ p) (h1 : p ≤ 68719476736) : free g p = max 0 (g.K - g.Power * (p / 1048576)) := by
  unfold free
  rw [if_pos (by rw [(gasOk_iff g).2 h]; simp [within]; omega)]
theorem free_bound (g : Gas) (p : Int) : 0 ≤ free g p ∧ (free g p ≤ 1152921504606846976) := by
  unfold free
  split
  · rename_i hc
    simp only [Bool.and_eq_true] at hc
    have h := (gasOk_iff g).1 hc.1
    have h2 : 1 ≤ p := by simpa [within] using (show 1 ≤ p ∧ p ≤ 68719476736 by simpa [within] using hc.2).1
    have h3 : 0 ≤ p / 1048576 := Int.ediv_nonneg (by omega) (by omega)
    have := Int.mul_nonneg h.p0 h3
    have := h.k1
    omega
  · omega
theorem space_eq (g : Gas) {p : Int} (hp : 1 ≤ p) : space g p = ⟨free g p / p, upDiv (free g p) p⟩ := by
  unfold space
  split
  · rename_i h
    rw [h]
    have h2 : upDiv 0 p = 0 := by
      unfold upDiv
      exact Int.ediv_eq_zero_of_lt (by omega) (by omega)
    rw [h2]
    simp
  · rfl

structure Bubbly (g : Gas) (p more : Int) : Prop where
  gas : GasIn g
  p0 : 1 ≤ p
  p1 : p ≤ 34359738368
  m0 : 0 ≤ more
  m1 : more ≤ 34359738367

theorem free_mono {g : Gas} (h : GasIn g) {p q : Int} (h0 : 1 ≤ p) (h1 : p ≤ q) (h2 : q ≤ 68719476736) : free g q ≤ free g p := by
  rw [free_eq h h0 (by omega), free_eq h (by omega) h2]
  have h3 : p / 1048576 ≤ q / 1048576 := Int.ediv_le_ediv (by omega) h1
  have := Int.mul_le_mul_of_nonneg_left h3 h.p0
  omega
theorem free_le {g : Gas} (h : GasIn g) {p : Int} (h0 : 1 ≤ p) (h1 : p ≤ 68719476736) : free g p ≤ g.K := by
  rw [free_eq h h0 h1]
  have := Int.mul_nonneg h.p0 (show 0 ≤ p / 1048576 from Int.ediv_nonneg (by omega) (by omega))
  have := h.k0
  omega
theorem space_laws {g : Gas} {p more : Int} (h : Bubbly g p more) :
    (space g (p + more)).Lo ≤ (space g p).Lo ∧ (space g (p + more)).Hi ≤ (space g p).Hi ∧ (space g p).Hi - (space g p).Lo ≤ 1 ∧ (space g p).Lo ≤ (space g p).Hi := by
  have hp := h.p0
  have hm := h.m0
  rw [space_eq g hp, space_eq g (show 1 ≤ p + more by omega)]
  have f0 := (free_bound g (p + more)).1
  have f1 := free_mono h.gas h.p0 (show p ≤ p + more by omega) (by have := h.p1; have := h.m1; omega)
  generalize free g (p + more) = a at *
  generalize free g p = b at *
  have e1 := Int.mul_ediv_add_emod b p
  have e2 := Int.emod_nonneg b (show p ≠ 0 by omega)
  have e3 := Int.emod_lt_of_pos b (show 0 < p by omega)
  have c := Int.mul_comm (b / p) p
  have hq : 0 ≤ a / (p + more) := Int.ediv_nonneg f0 (by omega)
  refine ⟨?_, upDiv_mono f0 f1 (by omega) (by omega), ?_, ?_⟩
  · show a / (p + more) ≤ b / p
    have g1 := Int.mul_ediv_add_emod a (p + more)
    have g2 := Int.emod_nonneg a (show p + more ≠ 0 by omega)
    have g3 : p * (a / (p + more)) ≤ (p + more) * (a / (p + more)) := Int.mul_le_mul_of_nonneg_right (by omega) hq
    refine Int.le_ediv_of_mul_le (by omega) ?_
    rw [Int.mul_comm]
    omega
  · show upDiv b p - b / p ≤ 1
    have : upDiv b p ≤ b / p + 1 := upDiv_le (by omega) (by rw [Int.add_mul, Int.one_mul]; omega)
    omega
  · show b / p ≤ upDiv b p
    have h1 := (upDiv_spec b p (by omega)).1
    have h2 : b / p * p ≤ upDiv b p * p := by omega
    exact Int.le_of_mul_le_mul_right h2 (by omega)

theorem bubble_laws {g : Gas} (h : GasIn g) :
    ((bubble g).2 = false → 0 < free g 68719476736) ∧
    ((bubble g).2 = true → 1 ≤ (bubble g).1 ∧ (bubble g).1 ≤ 68719476736 ∧ (∀ q, (bubble g).1 ≤ q → q ≤ 68719476736 → free g q = 0) ∧ ((bubble g).1 = 1 ∨ (2 ≤ (bubble g).1 ∧ 0 < free g ((bubble g).1 - 1)))) := by
  have hk0 := h.k0
  have hp0 := h.p0
  unfold bubble
  rw [if_neg (by rw [(gasOk_iff g).2 h]; simp)]
  split
  · rename_i hk
    refine ⟨fun h => by simp at h, fun _ => ⟨by simp, by simp, fun q h1 h2 => ?_, .inl rfl⟩⟩
    simp only at h1
    rw [free_eq h h1 h2, hk]
    have := Int.mul_nonneg h.p0 (show 0 ≤ q / 1048576 from Int.ediv_nonneg (by omega) (by omega))
    omega
  · split
    · rename_i hk hp
      refine ⟨fun _ => ?_, fun h => by simp at h⟩
      rw [free_eq h (by omega) (by omega), hp, Int.zero_mul]
      omega
    · rename_i hk hp
      have hs := upDiv_spec g.K g.Power (by omega)
      have hn : 1 ≤ upDiv g.K g.Power := by
        rcases Int.lt_or_le (upDiv g.K g.Power) 1 with h1 | h1
        · have := Int.mul_le_mul_of_nonneg_right (show upDiv g.K g.Power ≤ 0 by omega) (show 0 ≤ g.Power by omega)
          rw [Int.zero_mul] at this
          omega
        · exact h1
      generalize upDiv g.K g.Power = n at *
      split
      · rename_i hb
        refine ⟨fun _ => ?_, fun h => by simp at h⟩
        rw [free_eq h (by omega) (by omega)]
        have h1 : 65536 * g.Power ≤ (n - 1) * g.Power := Int.mul_le_mul_of_nonneg_right (by omega) (by omega)
        have h2 : (68719476736 : Int) / 1048576 = 65536 := by decide
        rw [h2, Int.mul_comm]
        omega
      · rename_i hb
        refine ⟨fun h => by simp at h, fun _ => ⟨by simp only; omega, by simp only; omega, fun q h1 h2 => ?_, .inr ⟨by simp only; omega, ?_⟩⟩⟩
        · simp only at h1
          rw [free_eq h (by omega) h2]
          have h3 : n ≤ q / 1048576 := Int.le_ediv_of_mul_le (by omega) (by omega)
          have h4 : n * g.Power ≤ q / 1048576 * g.Power := Int.mul_le_mul_of_nonneg_right h3 (by omega)
          rw [Int.mul_comm g.Power]
          omega
        · simp only
          rw [free_eq h (by omega) (by omega)]
          have h3 : (n * 1048576 - 1) / 1048576 = n - 1 := by omega
          rw [h3, Int.mul_comm g.Power]
          omega

/-! ### cuttings -/
theorem goodSeg_iff (s : Seg) : goodSeg s = true ↔ GoodSeg s ∧ s.Long ≤ 1048576 := by
  rw [goodSeg, Bool.and_eq_true, fairSeg_iff, decide_eq_true_eq]
structure Carry (s : Seg) (feed flow slip more weight rock : Int) : Prop where
  seg : GoodSeg s
  long : s.Long ≤ 1048576
  feed0 : 0 ≤ feed
  feed1 : feed ≤ 9999
  flow0 : 0 ≤ flow
  flow1 : flow ≤ 499999
  slip0 : 0 ≤ slip
  slip1 : slip ≤ 299
  more0 : 0 ≤ more
  more1 : more ≤ 499999
  w0 : 0 ≤ weight
  w1 : weight ≤ 29999
  r0 : weight ≤ rock
  r1 : rock ≤ weight + 10000
theorem load_eq {s : Seg} {feed flow slip : Int} (hs : GoodSeg s) (hl : s.Long ≤ 1048576) (h1 : 0 ≤ feed) (h2 : feed ≤ 1000000) (h3 : 0 ≤ flow) (h4 : flow ≤ 1000000) (h5 : 0 ≤ slip) (h6 : slip ≤ 1000) :
    load s feed flow slip = if flow - slip * s.Area ≤ 0 then (0, false) else (min 1000 (upDiv (1000 * feed) (flow - slip * s.Area)), true) := by
  unfold load
  rw [if_pos (by rw [(goodSeg_iff s).2 ⟨hs, hl⟩]; simp [within]; omega)]
theorem mixed_eq {w r l : Int} (h1 : 0 ≤ w) (h2 : w ≤ 40000) (h3 : 0 ≤ r) (h4 : r ≤ 40000) (h5 : 0 ≤ l) (h6 : l ≤ 1000) : mixed w r l = upDiv (w * (1000 - l) + r * l) 1000 := by
  unfold mixed
  rw [if_pos (by simp [within]; omega)]
theorem mixed_mid {w r l : Int} (h1 : 0 ≤ w) (h2 : w ≤ r) (h4 : r ≤ 40000) (h5 : 0 ≤ l) (h6 : l ≤ 1000) : w ≤ mixed w r l ∧ mixed w r l ≤ r ∧ mixed w r 0 = w ∧ mixed w r 1000 = r := by
  rw [mixed_eq h1 (by omega) (by omega) h4 h5 h6, mixed_eq h1 (by omega) (by omega) h4 (by omega) (by omega), mixed_eq h1 (by omega) (by omega) h4 (by omega) (by omega)]
  have a1 : w * l ≤ r * l := Int.mul_le_mul_of_nonneg_right h2 h5
  have a2 : w * (1000 - l) ≤ r * (1000 - l) := Int.mul_le_mul_of_nonneg_right h2 (by omega)
  rw [Int.mul_sub] at a2 ⊢
  rw [Int.mul_sub] at a2
  unfold upDiv
  omega
theorem carried_laws {s : Seg} {feed flow slip more weight rock : Int} (h : Carry s feed flow slip more weight rock) :
    ((load s feed flow slip).2 = true ↔ slip * s.Area < flow) ∧
    ((load s feed flow slip).2 = true → (load s feed (flow + more) slip).2 = true ∧ (load s feed (flow + more) slip).1 ≤ (load s feed flow slip).1) ∧ 0 ≤ (load s feed flow slip).1 ∧ (load s feed flow slip).1 ≤ 1000 := by
  obtain ⟨hs, hl, f0, f1, g0, g1, s0, s1, m0, m1, w0, w1, r0, r1⟩ := h
  rw [load_eq hs hl f0 (by omega) g0 (by omega) s0 (by omega), load_eq hs hl f0 (by omega) (show 0 ≤ flow + more by omega) (by omega) s0 (by omega)]
  by_cases hn : flow - slip * s.Area ≤ 0
  · rw [if_pos hn]
    refine ⟨by simp; omega, fun h => by simp at h, by simp, by simp⟩
  · rw [if_neg hn, if_neg (by omega)]
    have hu := upDiv_mono (a' := 1000 * feed) (a := 1000 * feed) (by omega) (Int.le_refl _) (show 0 < flow - slip * s.Area by omega) (show flow - slip * s.Area ≤ flow + more - slip * s.Area by omega)
    have h0 := upDiv_nonneg (a := 1000 * feed) (by omega) (show 0 < flow - slip * s.Area by omega)
    refine ⟨by simp; omega, fun _ => ⟨rfl, by simp only; omega⟩, by simp only; omega, by simp only; omega⟩

end Mpl
