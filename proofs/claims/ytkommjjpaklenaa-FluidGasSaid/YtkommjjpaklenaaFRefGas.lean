/- Walks of the reference of layer 3: gas. -/
import Derived.Test.YtkommjjpaklenaaFSmall
namespace Mpl
theorem gasOk_four (g : Gas) : gasOk g = (decide (0 ≤ g.K) && decide (g.K ≤ 1152921504606846976) && decide (0 ≤ g.Power) && decide (g.Power ≤ 1099511627776)) := by
  simp only [gasOk, within, Bool.decide_and, Bool.and_assoc]
/-- the first n at which the power dissolves all -/
theorem bubble_first {g : Gas} (h : GasIn g) (hk : g.K ≠ 0) {n : Int} (h1 : 1 ≤ n) (hn : n ≤ 65536) (hlt : g.Power * (n - 1) < g.K) (hge : g.K ≤ g.Power * n) : bubble g = (n * 1048576, true) := by
  have hok := (gasOk_iff g).2 h
  obtain ⟨k0, k1, p0, p1⟩ := h
  have hp : 0 < g.Power := by
    rcases Int.lt_or_le 0 g.Power with h | h
    · exact h
    · have : g.Power = 0 := by omega
      rw [this] at hge
      simp at hge
      omega
  have hu : upDiv g.K g.Power = n := by
    have s1 := upDiv_spec g.K g.Power hp
    have s2 := upDiv_le hp (q := n) (by rw [Int.mul_comm]; exact hge)
    have s3 : n ≤ upDiv g.K g.Power := by
      rcases Int.lt_or_le (upDiv g.K g.Power) n with h | h
      · have : upDiv g.K g.Power ≤ n - 1 := by omega
        have := Int.mul_le_mul_of_nonneg_left this p0
        rw [Int.mul_comm] at this
        omega
      · exact h
    omega
  unfold bubble
  rw [hok, if_neg (by simp), if_neg hk, if_neg (by omega), hu, if_neg (by omega)]
theorem bubble_never {g : Gas} (h : GasIn g) (hk : g.K ≠ 0) (hlt : g.Power * 65536 < g.K) : bubble g = (0, false) := by
  have hok := (gasOk_iff g).2 h
  obtain ⟨k0, k1, p0, p1⟩ := h
  unfold bubble
  rw [hok, if_neg (by simp), if_neg hk]
  split
  · rfl
  · rename_i hp
    have s1 := upDiv_spec g.K g.Power (by omega)
    rw [if_pos]
    rcases Int.lt_or_le 65536 (upDiv g.K g.Power) with h | h
    · exact h
    · have := Int.mul_le_mul_of_nonneg_left h p0
      rw [Int.mul_comm] at this
      omega
end Mpl
namespace Go.Proofs.Ytkommjjpaklenaa
open Go.RowKit Go.Shelf Mpl

set_option maxHeartbeats 2000000 in
theorem ref03_gas (g : Gas) (w : World) :
    Calls Try.prog 82 #[gasV g] w fun e w' => e = .returned (.bool (gasOk g)) ∧ Below w.heap.size w w' := by
  rw [gasOk_four]
  unfold gasV
  generalize g.K = a at *
  generalize g.Power = b at *
  cases h1 : decide (0 ≤ a)
  · go_enter Try.func82, Try.ntmps82
    go_wp2_with fail
    go_ret
    exact ⟨rfl, (by repeat (first | exact Below.refl _ _ | assumption | refine Below.setCell ?_ (by first | (simp; done) | (simp; omega)) _ | refine belowDrewN ?_ _ | refine Below.drew ?_ | refine Below.alloc ?_ (by first | (simp; done) | (simp; omega)) _))⟩
  cases h2 : decide (a ≤ 1152921504606846976)
  · go_enter Try.func82, Try.ntmps82
    go_wp2_with fail
    go_ret
    exact ⟨rfl, (by repeat (first | exact Below.refl _ _ | assumption | refine Below.setCell ?_ (by first | (simp; done) | (simp; omega)) _ | refine belowDrewN ?_ _ | refine Below.drew ?_ | refine Below.alloc ?_ (by first | (simp; done) | (simp; omega)) _))⟩
  cases h3 : decide (0 ≤ b)
  · go_enter Try.func82, Try.ntmps82
    go_wp2_with fail
    go_ret
    exact ⟨rfl, (by repeat (first | exact Below.refl _ _ | assumption | refine Below.setCell ?_ (by first | (simp; done) | (simp; omega)) _ | refine belowDrewN ?_ _ | refine Below.drew ?_ | refine Below.alloc ?_ (by first | (simp; done) | (simp; omega)) _))⟩
  · go_enter Try.func82, Try.ntmps82
    go_wp2_with fail
    go_ret
    exact ⟨rfl, (by repeat (first | exact Below.refl _ _ | assumption | refine Below.setCell ?_ (by first | (simp; done) | (simp; omega)) _ | refine belowDrewN ?_ _ | refine Below.drew ?_ | refine Below.alloc ?_ (by first | (simp; done) | (simp; omega)) _))⟩

theorem ref03_up (a b : Int) (w : World) (h0 : 0 ≤ a) (h1 : a ≤ 2305843009213693952) (h2 : 1 ≤ b) (h3 : b ≤ 2305843009213693952) :
    Calls Try.prog 80 #[.int .i64 a, .int .i64 b] w fun e w' => e = .returned (.int .i64 (upDiv a b)) ∧ w = w' := by
  have hz : (b == 0) = false := beq_eq_false_iff_ne.2 (by omega)
  have hd : Hid (upDiv a b = (a + b - 1) / b) := rfl
  have hz1 : 0 ≤ a + b - 1 := by omega
  have hq : 0 ≤ (a + b - 1) / b := Int.ediv_nonneg (by omega) (by omega)
  have hq2 : (a + b - 1) / b ≤ a + b - 1 := Int.ediv_le_self _ (by omega)
  go_enter Try.func80, Try.ntmps80
  go_wp2_with fail
  go_ret
  exact ⟨ret_int hd.out.symm, rfl⟩

set_option maxHeartbeats 1000000 in
theorem ref03_Free (g : Gas) (p : Int) (w : World) :
    Calls Try.prog 44 #[gasV g, .int .i64 p] w fun e w' => e = .returned (.int .i64 (free g p)) ∧ Below w.heap.size w w' := by
  have H := Lib.hid (fun w => ref03_gas g w)
  have HB := Lib.hid (gas_box g w)
  unfold gasV at *
  cases h1 : gasOk g
  · have hs : Hid (free g p = 0) := by simp [free, h1, Hid]
    rw [h1] at H
    clear HB
    go_enter Try.func44, Try.ntmps44
    go_wp2_with (go_at_call 82; refine (H.out _).mono ?_; rintro e w' ⟨rfl, hb⟩)
    go_ret
    exact ⟨by rw [hs.out]; rfl, ((Below.refl _ w).alloc (Nat.le_refl _) _).trans (hb.mono (by simp))⟩
  · by_cases hp1 : 1 ≤ p
    case neg =>
      have hs : Hid (free g p = 0) := by simp [free, within, hp1, Hid]
      have d1 : decide (p < 1) = true := decide_eq_true (by omega)
      rw [h1] at H
      clear HB
      go_enter Try.func44, Try.ntmps44
      go_wp2_with (go_at_call 82; refine (H.out _).mono ?_; rintro e w' ⟨rfl, hb⟩)
      go_ret
      exact ⟨by rw [hs.out]; rfl, ((Below.refl _ w).alloc (Nat.le_refl _) _).trans (hb.mono (by simp))⟩
    have d1 : decide (p < 1) = false := decide_eq_false (by omega)
    by_cases hp2 : p ≤ 68719476736
    case neg =>
      have hs : Hid (free g p = 0) := by simp [free, within, hp2, Hid]
      have d2 : decide (68719476736 < p) = true := decide_eq_true (by omega)
      rw [h1] at H
      clear HB
      go_enter Try.func44, Try.ntmps44
      go_wp2_with (go_at_call 82; refine (H.out _).mono ?_; rintro e w' ⟨rfl, hb⟩)
      go_ret
      exact ⟨by rw [hs.out]; rfl, ((Below.refl _ w).alloc (Nat.le_refl _) _).trans (hb.mono (by simp))⟩
    have d2 : decide (68719476736 < p) = false := decide_eq_false (by omega)
    have hg := (gasOk_iff g).1 h1
    have hs := Lib.hid (free_eq hg hp1 hp2)
    obtain ⟨k0, k1, m0, m1⟩ := hg
    have e0 : 0 ≤ p / 1048576 := Int.ediv_nonneg (by omega) (by omega)
    have e1 : p / 1048576 ≤ 65536 := by omega
    have pr0 : 0 ≤ g.Power * (p / 1048576) := Int.mul_nonneg m0 e0
    have pr1 : g.Power * (p / 1048576) ≤ 72057594037927936 := by
      have a := Int.mul_le_mul_of_nonneg_left e1 m0
      omega
    rw [h1] at H
    go_enter Try.func44, Try.ntmps44
    go_wp2_with fail
    refine (H.out _).mono ?_
    rintro e w' ⟨rfl, hb⟩
    obtain ⟨q0, q1⟩ := gas_load (HB.out.under hb)
    have hb' := ((Below.refl _ w).alloc (Nat.le_refl _) (.cells #[.int .i64 g.K, .int .i64 g.Power] 69)).trans (hb.mono (by simp))
    clear hb
    go_wp2_with fail
    all_goals
      go_ret
      exact ⟨ret_int (by rw [hs.out]; omega), hb'⟩


set_option maxHeartbeats 2000000 in
set_option maxRecDepth 100000 in
theorem ref03_Space (g : Gas) (p : Int) (w : World) :
    Calls Try.prog 46 #[gasV g, .int .i64 p] w fun e w' => e = .returned (.agg #[.int .i64 (space g p).Lo, .int .i64 (space g p).Hi]) ∧ Below w.heap.size w w' := by
  have H := Lib.hid (fun w => ref03_gas g w)
  have HF := Lib.hid (fun w => ref03_Free g p w)
  have HB := gas_box g w
  have hfb := free_bound g p
  have hz : free g p = 0 → space g p = ⟨0, 0⟩ := fun h => by simp [space, h]
  unfold gasV at *
  obtain ⟨w0, hw0⟩ : ∃ w0, ((w.alloc (.cells #[.int .i64 g.K, .int .i64 g.Power] 69)).alloc (.cells #[.int .i64 0, .int .i64 0] 34)) = w0 := ⟨_, rfl⟩
  have b1 : Box w0 (w.heap.size + 1) 34 #[.int .i64 0, .int .i64 0] := by rw [← hw0]; exact Box.new _ _ _ (by simp)
  have b2 : Box w0 w.heap.size 69 #[.int .i64 g.K, .int .i64 g.Power] := by rw [← hw0]; exact HB.alloc _
  have hB0 : Below w.heap.size w w0 := by rw [← hw0]; exact (by repeat (first | exact Below.refl _ _ | assumption | refine Below.setCell ?_ (by first | (simp; done) | (simp; omega)) _ | refine belowDrewN ?_ _ | refine Below.drew ?_ | refine Below.alloc ?_ (by first | (simp; done) | (simp; omega)) _))
  have HW0 := Lib.hid hw0
  have B1 := Lib.hid b1
  have B2 := Lib.hid b2
  have HB0 := Lib.hid hB0
  clear hw0 b1 b2 hB0 HB
  cases h1 : gasOk g
  · have hs : Hid (space g p = ⟨0, 0⟩) := hz (by simp [free, h1])
    rw [h1] at H
    clear hfb hz HF
    go_enter Try.func46, Try.ntmps46
    go_wp2_with fail
    rw [HW0.out]
    refine (H.out _).mono ?_
    rintro e w' ⟨rfl, hb⟩
    have b1 := B1.out.under hb
    have B := Lib.hid (HB0.out.trans (hb.mono HB0.out.size))
    have BX := Lib.hid b1
    obtain ⟨q0, q1⟩ := (⟨b1.cell 0, b1.cell 1⟩ : w'.cell? ⟨w.heap.size + 1, 0, none⟩ = some (.int .i64 0) ∧ w'.cell? ⟨w.heap.size + 1, 1, none⟩ = some (.int .i64 0))
    obtain ⟨f0, f1⟩ := (⟨b1.frozen 0, b1.frozen 1⟩ : w'.frozen? ⟨w.heap.size + 1, 0, none⟩ = false ∧ w'.frozen? ⟨w.heap.size + 1, 1, none⟩ = false)
    clear hb b1
    go_wp2_with fail
    refine bodyPost_ret (results_cell1 rfl _ _ _ (w.heap.size + 1) _ rfl (load_rng (t := 34) (by simpa using (BX.out.set_ 0 (.int .i64 0)).set_ 1 (.int .i64 0)))) rfl ⟨by rw [hs.out], ?_⟩
    exact (B.out.setCell (p := ⟨w.heap.size + 1, 0, none⟩) (by simp) _).setCell (p := ⟨w.heap.size + 1, 1, none⟩) (by simp) _
  rw [h1] at H
  by_cases hp1 : 1 ≤ p
  case neg =>
    have hs : Hid (space g p = ⟨0, 0⟩) := hz (by simp [free, within, hp1])
    have d1 : decide (p < 1) = true := decide_eq_true (by omega)
    clear hfb hz HF
    go_enter Try.func46, Try.ntmps46
    go_wp2_with fail
    rw [HW0.out]
    refine (H.out _).mono ?_
    rintro e w' ⟨rfl, hb⟩
    have b1 := B1.out.under hb
    have B := Lib.hid (HB0.out.trans (hb.mono HB0.out.size))
    have BX := Lib.hid b1
    obtain ⟨q0, q1⟩ := (⟨b1.cell 0, b1.cell 1⟩ : w'.cell? ⟨w.heap.size + 1, 0, none⟩ = some (.int .i64 0) ∧ w'.cell? ⟨w.heap.size + 1, 1, none⟩ = some (.int .i64 0))
    obtain ⟨f0, f1⟩ := (⟨b1.frozen 0, b1.frozen 1⟩ : w'.frozen? ⟨w.heap.size + 1, 0, none⟩ = false ∧ w'.frozen? ⟨w.heap.size + 1, 1, none⟩ = false)
    clear hb b1
    go_wp2_with fail
    refine bodyPost_ret (results_cell1 rfl _ _ _ (w.heap.size + 1) _ rfl (load_rng (t := 34) (by simpa using (BX.out.set_ 0 (.int .i64 0)).set_ 1 (.int .i64 0)))) rfl ⟨by rw [hs.out], ?_⟩
    exact (B.out.setCell (p := ⟨w.heap.size + 1, 0, none⟩) (by simp) _).setCell (p := ⟨w.heap.size + 1, 1, none⟩) (by simp) _
  have d1 : decide (p < 1) = false := decide_eq_false (by omega)
  by_cases hp2 : p ≤ 68719476736
  case neg =>
    have hs : Hid (space g p = ⟨0, 0⟩) := hz (by simp [free, within, hp2])
    have d2 : decide (68719476736 < p) = true := decide_eq_true (by omega)
    clear hfb hz HF
    go_enter Try.func46, Try.ntmps46
    go_wp2_with fail
    rw [HW0.out]
    refine (H.out _).mono ?_
    rintro e w' ⟨rfl, hb⟩
    have b1 := B1.out.under hb
    have B := Lib.hid (HB0.out.trans (hb.mono HB0.out.size))
    have BX := Lib.hid b1
    obtain ⟨q0, q1⟩ := (⟨b1.cell 0, b1.cell 1⟩ : w'.cell? ⟨w.heap.size + 1, 0, none⟩ = some (.int .i64 0) ∧ w'.cell? ⟨w.heap.size + 1, 1, none⟩ = some (.int .i64 0))
    obtain ⟨f0, f1⟩ := (⟨b1.frozen 0, b1.frozen 1⟩ : w'.frozen? ⟨w.heap.size + 1, 0, none⟩ = false ∧ w'.frozen? ⟨w.heap.size + 1, 1, none⟩ = false)
    clear hb b1
    go_wp2_with fail
    refine bodyPost_ret (results_cell1 rfl _ _ _ (w.heap.size + 1) _ rfl (load_rng (t := 34) (by simpa using (BX.out.set_ 0 (.int .i64 0)).set_ 1 (.int .i64 0)))) rfl ⟨by rw [hs.out], ?_⟩
    exact (B.out.setCell (p := ⟨w.heap.size + 1, 0, none⟩) (by simp) _).setCell (p := ⟨w.heap.size + 1, 1, none⟩) (by simp) _
  have d2 : decide (68719476736 < p) = false := decide_eq_false (by omega)
  have hs : Hid (space g p = ⟨free g p / p, upDiv (free g p) p⟩) := space_eq g hp1
  have hz2 : (p == 0) = false := beq_eq_false_iff_ne.2 (by omega)
  obtain ⟨g1, g2⟩ := hfb
  have HU := Lib.hid (fun w => ref03_up (free g p) p w g1 (by omega) hp1 (by omega))
  have hq : 0 ≤ free g p / p := Int.ediv_nonneg g1 (by omega)
  have hq2 : free g p / p ≤ free g p := Int.ediv_le_self _ g1
  clear hz h1
  generalize free g p = f at *
  generalize upDiv f p = ud at *
  have hp0 : ¬ p = 0 := by omega
  have hwr : IntKind.i64.wrap (f.tdiv p) = f / p := by
    rw [Int.tdiv_eq_ediv_of_nonneg g1]
    exact IntWalk.i64_in _ (by omega)
  go_enter Try.func46, Try.ntmps46
  go_wp2_with fail
  rw [HW0.out]
  refine (H.out _).mono ?_
  rintro e w' ⟨rfl, hb⟩
  obtain ⟨q2, q3⟩ := gas_load (B2.out.under hb)
  have X1 := Lib.hid (B1.out.under hb)
  have Y1 := Lib.hid (HB0.out.trans (hb.mono HB0.out.size))
  clear hb
  go_wp2_with fail
  refine (HF.out _).mono ?_
  rintro e w2 ⟨rfl, hb⟩
  have b1 := X1.out.under hb
  have B := Lib.hid (Y1.out.trans (hb.mono Y1.out.size))
  have BX := Lib.hid b1
  obtain ⟨q0, q1⟩ := (⟨b1.cell 0, b1.cell 1⟩ : w2.cell? ⟨w.heap.size + 1, 0, none⟩ = some (.int .i64 0) ∧ w2.cell? ⟨w.heap.size + 1, 1, none⟩ = some (.int .i64 0))
  obtain ⟨f0, f1⟩ := (⟨b1.frozen 0, b1.frozen 1⟩ : w2.frozen? ⟨w.heap.size + 1, 0, none⟩ = false ∧ w2.frozen? ⟨w.heap.size + 1, 1, none⟩ = false)
  clear hb b1
  go_wp2_with fail
  refine wp_region_still_tail 7 mixed (by kernel_rfl) ?_
  simp only [List.take_succ_cons, List.take_zero, List.drop_succ_cons, List.drop_zero]
  repeat still_step
  still_call (quiet_of (HU.out _))
  repeat still_step
  refine wpStill_nil ?_
  clear hwr
  go_wp2_with fail
  refine bodyPost_ret (results_cell1 rfl _ _ _ (w.heap.size + 1) _ rfl (load_rng (t := 34) (by simpa using ((BX.out.set_ 0 (.int .i64 (f / p))).set_ 1 (.int .i64 ud)).drew))) rfl ⟨by rw [hs.out], ?_⟩
  exact ((B.out.setCell (p := ⟨w.heap.size + 1, 0, none⟩) (by simp) _).setCell (p := ⟨w.heap.size + 1, 1, none⟩) (by simp) _).drew

set_option maxHeartbeats 2000000 in
set_option maxRecDepth 100000 in
theorem ref03_Bubble (g : Gas) (w : World) :
    Calls Try.prog 42 #[gasV g] w fun e w' => e = .returned (.tuple #[.int .i64 (bubble g).1, .bool (bubble g).2]) ∧ Below w.heap.size w w' := by
  have H := Lib.hid (fun w => ref03_gas g w)
  have HB := Lib.hid (gas_box g w)
  have HFI := Lib.hid (fun h hk n h1 hn hlt hge => bubble_first (g := g) h hk (n := n) h1 hn hlt hge)
  have HNE := Lib.hid (fun h hk hlt => bubble_never (g := g) h hk hlt)
  have hbad : gasOk g = false → bubble g = (0, false) := fun h => by simp [bubble, h]
  have hno : gasOk g = true → g.K = 0 → bubble g = (1, true) := fun h hk => by simp [bubble, h, hk]
  unfold gasV at *
  have hw0 : Below w.heap.size w (w.alloc (.cells #[.int .i64 g.K, .int .i64 g.Power] 69)) := (by repeat (first | exact Below.refl _ _ | assumption | refine Below.setCell ?_ (by first | (simp; done) | (simp; omega)) _ | refine belowDrewN ?_ _ | refine Below.drew ?_ | refine Below.alloc ?_ (by first | (simp; done) | (simp; omega)) _))
  have HW := Lib.hid hw0
  clear hw0
  cases h1 : gasOk g
  · have hs := Lib.hid (hbad h1)
    rw [h1] at H
    clear hbad hno HFI HNE
    go_enter Try.func42, Try.ntmps42
    go_wp2_with fail
    refine (H.out _).mono ?_
    rintro e w' ⟨rfl, hb⟩
    go_wp2_with fail
    go_ret2
    exact ⟨by rw [hs.out]; rfl, HW.out.trans (hb.mono HW.out.size)⟩
  have HG := Lib.hid ((gasOk_iff g).1 h1)
  rw [h1] at H
  by_cases hk : g.K = 0
  · have hs := Lib.hid (hno h1 hk)
    have hk0 : (g.K == 0) = true := beq_iff_eq.2 hk
    clear hbad hno HFI HNE hk
    go_enter Try.func42, Try.ntmps42
    go_wp2_with fail
    refine (H.out _).mono ?_
    rintro e w' ⟨rfl, hb⟩
    obtain ⟨q0, q1⟩ := gas_load (HB.out.under hb)
    go_wp2_with fail
    go_ret2
    exact ⟨by rw [hs.out]; rfl, HW.out.trans (hb.mono HW.out.size)⟩
  have hk0 : (g.K == 0) = false := beq_eq_false_iff_ne.2 hk
  have HFI2 := Lib.hid (fun n h1 hn hlt hge => HFI.out HG.out hk n h1 hn hlt hge)
  have HNE2 := Lib.hid (fun hlt => HNE.out HG.out hk hlt)
  obtain ⟨k0, k1, p0, p1⟩ := HG.out
  have hkp : 0 < g.K := by omega
  clear hbad hno HFI HNE h1 hk HG
  generalize bubble g = res at *
  generalize g.K = K at *
  generalize g.Power = P at *
  go_enter Try.func42, Try.ntmps42
  go_wp2_with fail
  refine (H.out _).mono ?_
  rintro e w1 ⟨rfl, hb⟩
  have B1 := Lib.hid (HB.out.under hb)
  have BW := Lib.hid (HW.out.trans (hb.mono HW.out.size))
  obtain ⟨q0, q1⟩ := gas_load B1.out
  clear hb
  go_wp2_with fail
  go_loop [4] (fun s4 => ∃ n : Nat, 1 ≤ n ∧ n ≤ 65537 ∧ s4 = .int .i64 n ∧ Hid (P * ((n : Int) - 1) < K)) (fun s4 => 65537 - (intOf s4).toNat)
  case atStart => exact ⟨1, by omega, by omega, rfl, by unfold Hid; simpa using hkp⟩
  case round =>
    obtain ⟨n, hn1, hn2, rfl, hn⟩ := hrel
    by_cases hl : n ≤ 65536
    · have t1 : decide ((n : Int) ≤ 65536) = true := decide_eq_true (by omega)
      have m0 : 0 ≤ P * (n : Int) := Int.mul_nonneg p0 (by omega)
      have m1 : P * (n : Int) ≤ 72057594037927936 := by
        have a := Int.mul_le_mul p1 (show (n : Int) ≤ 65536 by omega) (by omega) (by omega)
        omega
      have hw1 : IntKind.i64.wrap (P * (n : Int)) = P * (n : Int) := IntWalk.i64_in _ (by omega)
      by_cases hge : K ≤ P * (n : Int)
      · have t2 : decide (K ≤ P * (n : Int)) = true := decide_eq_true hge
        have hs := Lib.hid (HFI2.out n (by omega) (by omega) hn.out hge)
        go_wp2_with fail
        go_ret2
        exact ⟨ret_ib (by rw [hs.out]) (by rw [hs.out]), BW.out⟩
      · have t2 : decide (K ≤ P * (n : Int)) = false := decide_eq_false hge
        have hnx : Hid (P * (((n + 1 : Nat) : Int) - 1) < K) := by
          unfold Hid
          rw [show (((n + 1 : Nat) : Int) - 1) = (n : Int) by omega]
          omega
        go_wp2_with fail
        go_round
        case rel => exact ⟨n + 1, by omega, by omega, by go_num, hnx⟩
        case measure => simp [intOf]; omega
    · have t1 : decide ((n : Int) ≤ 65536) = false := decide_eq_false (by omega)
      have hs := Lib.hid (HNE2.out (by have := hn.out; rw [show ((n : Int) - 1) = 65536 by omega] at this; exact this))
      go_wp2_with fail
      go_ret2
      exact ⟨by rw [hs.out]; rfl, BW.out⟩

end Go.Proofs.Ytkommjjpaklenaa
