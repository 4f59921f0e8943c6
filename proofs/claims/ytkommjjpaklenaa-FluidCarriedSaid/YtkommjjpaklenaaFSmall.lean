/- Walks of the package fluid: bubble points and cuttings. -/
import Derived.Test.YtkommjjpaklenaaFBase
namespace Go.Proofs.Ytkommjjpaklenaa
open Go.RowKit Go.Shelf Mpl

theorem ret_ib {a b : Int} {c d : Bool} (h1 : a = b) (h2 : c = d) : Ending.returned (.tuple #[.int .i64 a, .bool c]) = .returned (.tuple #[.int .i64 b, .bool d]) := by rw [h1, h2]

set_option maxHeartbeats 1000000 in
theorem fluid_Bubble (g : Gas) (w : World) :
    Calls Try.prog 41 #[gasV g] w fun e w' => e = .returned (.tuple #[.int .i64 (bubble g).1, .bool (bubble g).2]) ∧ Below w.heap.size w w' := by
  have H := Lib.hid (fun w => fluid_gas g w)
  have HB := Lib.hid (gas_box g w)
  unfold gasV at *
  cases h1 : gasOk g
  · have hs : Hid (bubble g = (0, false)) := by simp [bubble, h1, Hid]
    rw [h1] at H
    clear HB
    go_enter Try.func41, Try.ntmps41
    go_wp2_with (go_at_call 81; refine (H.out _).mono ?_; rintro e w' ⟨rfl, hb⟩)
    go_ret2
    exact ⟨by rw [hs.out]; rfl, ((Below.refl _ w).alloc (Nat.le_refl _) _).trans (hb.mono (by simp))⟩
  have hg := (gasOk_iff g).1 h1
  obtain ⟨k0, k1, p0, p1⟩ := hg
  have hd : Hid (bubble g = if g.K = 0 then (1, true) else if g.Power = 0 then (0, false) else if 65536 < upDiv g.K g.Power then (0, false) else (upDiv g.K g.Power * 1048576, true)) := by simp [bubble, h1, Hid]
  rw [h1] at H
  clear h1
  rw [hd.out]
  generalize hK : g.K = K at *
  generalize hP : g.Power = P at *
  have hw0 : Below w.heap.size w (w.alloc (.cells #[.int .i64 K, .int .i64 P] 69)) := (by repeat (first | exact Below.refl _ _ | assumption | refine Below.setCell ?_ (by first | (simp; done) | (simp; omega)) _ | refine belowDrewN ?_ _ | refine Below.drew ?_ | refine Below.alloc ?_ (by first | (simp; done) | (simp; omega)) _))
  have HW := Lib.hid hw0
  clear hK hP hd hw0
  by_cases hk : K = 0
  · rw [if_pos hk]
    subst hk
    go_enter Try.func41, Try.ntmps41
    go_wp2_with fail
    refine (H.out _).mono ?_
    rintro e w1 ⟨rfl, hb⟩
    obtain ⟨q0, q1⟩ := gas_load (HB.out.under hb)
    go_wp2_with fail
    go_ret2
    exact ⟨rfl, HW.out.trans (hb.mono HW.out.size)⟩
  rw [if_neg hk]
  have hk0 : (K == 0) = false := beq_eq_false_iff_ne.2 hk
  by_cases hp : P = 0
  · rw [if_pos hp]
    subst hp
    clear hk
    go_enter Try.func41, Try.ntmps41
    go_wp2_with fail
    refine (H.out _).mono ?_
    rintro e w1 ⟨rfl, hb⟩
    obtain ⟨q0, q1⟩ := gas_load (HB.out.under hb)
    go_wp2_with fail
    go_ret2
    exact ⟨rfl, HW.out.trans (hb.mono HW.out.size)⟩
  rw [if_neg hp]
  have hp0 : (P == 0) = false := beq_eq_false_iff_ne.2 hp
  have HU := Lib.hid (fun w => fluid_up K P w (by omega) (by omega) (by omega) (by omega))
  have hun := upDiv_nonneg (a := K) (b := P) (by omega) (by omega)
  clear hk hp
  generalize upDiv K P = q at *
  by_cases hq : 65536 < q
  · rw [if_pos hq]
    have hd : decide (65536 < q) = true := decide_eq_true hq
    clear hq
    go_enter Try.func41, Try.ntmps41
    go_wp2_with fail
    refine (H.out _).mono ?_
    rintro e w1 ⟨rfl, hb⟩
    obtain ⟨q0, q1⟩ := gas_load (HB.out.under hb)
    go_wp2_with (go_at_call 78; refine (HU.out _).mono ?_; rintro e w' ⟨rfl, rfl⟩)
    go_ret2
    exact ⟨rfl, HW.out.trans (hb.mono HW.out.size)⟩
  · rw [if_neg hq]
    have hd : decide (65536 < q) = false := decide_eq_false hq
    have hq1 : q ≤ 65536 := by omega
    clear hq
    go_enter Try.func41, Try.ntmps41
    go_wp2_with fail
    refine (H.out _).mono ?_
    rintro e w1 ⟨rfl, hb⟩
    obtain ⟨q0, q1⟩ := gas_load (HB.out.under hb)
    go_wp2_with (go_at_call 78; refine (HU.out _).mono ?_; rintro e w' ⟨rfl, rfl⟩)
    go_ret2
    exact ⟨ret_ib (by omega) rfl, HW.out.trans (hb.mono HW.out.size)⟩

set_option maxHeartbeats 1000000 in
theorem fluid_Mixed (a r l : Int) (w : World) :
    Calls Try.prog 39 #[.int .i64 a, .int .i64 r, .int .i64 l] w fun e w' => e = .returned (.int .i64 (Mpl.mixed a r l)) ∧ w = w' := by
  cases h1 : within a 0 40000
  · have hs : Hid (Mpl.mixed a r l = 0) := by simp [Mpl.mixed, h1, Hid]
    go_enter Try.func39, Try.ntmps39
    go_wp2_with (go_at_call 62; refine (fluid_within _ _ _ _).mono ?_; rintro e w' ⟨rfl, rfl⟩)
    go_ret
    exact ⟨by rw [hs.out]; rfl, rfl⟩
  cases h2 : within r 0 40000
  · have hs : Hid (Mpl.mixed a r l = 0) := by simp [Mpl.mixed, h2, Hid]
    go_enter Try.func39, Try.ntmps39
    go_wp2_with (go_at_call 62; refine (fluid_within _ _ _ _).mono ?_; rintro e w' ⟨rfl, rfl⟩)
    go_ret
    exact ⟨by rw [hs.out]; rfl, rfl⟩
  cases h3 : within l 0 1000
  · have hs : Hid (Mpl.mixed a r l = 0) := by simp [Mpl.mixed, h3, Hid]
    go_enter Try.func39, Try.ntmps39
    go_wp2_with (go_at_call 62; refine (fluid_within _ _ _ _).mono ?_; rintro e w' ⟨rfl, rfl⟩)
    go_ret
    exact ⟨by rw [hs.out]; rfl, rfl⟩
  have hs : Hid (Mpl.mixed a r l = upDiv (a * (1000 - l) + r * l) 1000) := by simp [Mpl.mixed, h1, h2, h3, Hid]
  have b1 : 0 ≤ a ∧ a ≤ 40000 := by simpa [within] using h1
  have b2 : 0 ≤ r ∧ r ≤ 40000 := by simpa [within] using h2
  have b3 : 0 ≤ l ∧ l ≤ 1000 := by simpa [within] using h3
  have hwl : IntKind.i64.wrap (1000 - l) = 1000 - l := IntWalk.i64_in _ (by omega)
  have m1 : 0 ≤ a * (1000 - l) ∧ a * (1000 - l) ≤ 40000 * 1000 := ⟨Int.mul_nonneg (by omega) (by omega), Int.mul_le_mul b1.2 (by omega) (by omega) (by omega)⟩
  have m2 : 0 ≤ r * l ∧ r * l ≤ 40000 * 1000 := ⟨Int.mul_nonneg (by omega) (by omega), Int.mul_le_mul b2.2 (by omega) (by omega) (by omega)⟩
  obtain ⟨m10, m11⟩ := m1
  obtain ⟨m20, m21⟩ := m2
  have hw1 : IntKind.i64.wrap (a * (1000 - l)) = a * (1000 - l) := IntWalk.i64_in _ (by omega)
  have hw2 : IntKind.i64.wrap (r * l) = r * l := IntWalk.i64_in _ (by omega)
  have hw3 : IntKind.i64.wrap (a * (1000 - l) + r * l) = a * (1000 - l) + r * l := IntWalk.i64_in _ (by omega)
  have HU := Lib.hid (fun w => fluid_up (a * (1000 - l) + r * l) 1000 w (by omega) (by omega) (by omega) (by omega))
  clear b1 b2 b3
  go_enter Try.func39, Try.ntmps39
  go_wp2_with (first | (go_at_call 62; refine (fluid_within _ _ _ _).mono ?_; rintro e w' ⟨rfl, rfl⟩) | (go_at_call 78; (try simp only [hwl, hw1, hw2, hw3]); refine (HU.out _).mono ?_; rintro e w' ⟨rfl, rfl⟩))
  go_ret
  exact ⟨by rw [hs.out]; rfl, rfl⟩

theorem seg_box3 {w : World} {g : Nat} {a b c d : Value} (h : Box w g 29 #[a, b, c, d]) : w.cell? ⟨g, 2, none⟩ = some c := h.cell 2

set_option maxHeartbeats 1000000 in
theorem fluid_Load (s : Seg) (feed flow slip : Int) (w : World) :
    Calls Try.prog 37 #[segV s, .int .i64 feed, .int .i64 flow, .int .i64 slip] w fun e w' => e = .returned (.tuple #[.int .i64 (Mpl.load s feed flow slip).1, .bool (Mpl.load s feed flow slip).2]) ∧ Below w.heap.size w w' := by
  have HSG := Lib.hid (fun w => fluid_segment s w)
  have b0 : Box (w.alloc (.cells #[.int .i64 s.Long, .int .i64 s.Rise, .int .i64 s.Area, .int .i64 s.Gap] 29)) w.heap.size 29 #[.int .i64 s.Long, .int .i64 s.Rise, .int .i64 s.Area, .int .i64 s.Gap] := Box.new _ _ _ rfl
  have hw0 : Below w.heap.size w (w.alloc (.cells #[.int .i64 s.Long, .int .i64 s.Rise, .int .i64 s.Area, .int .i64 s.Gap] 29)) := (by repeat (first | exact Below.refl _ _ | assumption | refine Below.setCell ?_ (by first | (simp; done) | (simp; omega)) _ | refine belowDrewN ?_ _ | refine Below.drew ?_ | refine Below.alloc ?_ (by first | (simp; done) | (simp; omega)) _))
  have HB := Lib.hid b0
  have HW := Lib.hid hw0
  clear b0 hw0
  unfold segV at *
  cases h0 : goodSeg s
  · have hs : Hid (Mpl.load s feed flow slip = (0, false)) := by simp [Mpl.load, h0, Hid]
    rw [h0] at HSG
    go_enter Try.func37, Try.ntmps37
    go_wp2_with fail
    refine (HSG.out _).mono ?_
    rintro e w1 ⟨rfl, hb⟩
    go_wp2_with fail
    go_ret2
    exact ⟨by rw [hs.out]; rfl, HW.out.trans (hb.mono HW.out.size)⟩
  rw [h0] at HSG
  cases h1 : (within feed 0 1000000 && within flow 0 1000000 && within slip 0 1000)
  · have hs : Hid (Mpl.load s feed flow slip = (0, false)) := by simp only [Mpl.load, h0, h1, Bool.true_and, Hid]; rfl
    cases h2 : within feed 0 1000000
    · go_enter Try.func37, Try.ntmps37
      go_wp2_with (go_at_call 77; refine (HSG.out _).mono ?_; rintro e w1 ⟨rfl, hb⟩)
      go_wp2_with (go_at_call 62; refine (fluid_within _ _ _ _).mono ?_; rintro e w' ⟨rfl, rfl⟩; rw [h2])
      go_ret2
      exact ⟨by rw [hs.out]; rfl, HW.out.trans (hb.mono HW.out.size)⟩
    cases h3 : within flow 0 1000000
    · go_enter Try.func37, Try.ntmps37
      go_wp2_with (first | (go_at_call 77; refine (HSG.out _).mono ?_; rintro e w1 ⟨rfl, hb⟩) | (go_at_call 62; refine (fluid_within _ _ _ _).mono ?_; rintro e w' ⟨rfl, rfl⟩; first | rw [h2] | rw [h3]))
      go_ret2
      exact ⟨by rw [hs.out]; rfl, HW.out.trans (hb.mono HW.out.size)⟩
    have h4 : within slip 0 1000 = false := by simpa [h2, h3] using h1
    go_enter Try.func37, Try.ntmps37
    go_wp2_with (first | (go_at_call 77; refine (HSG.out _).mono ?_; rintro e w1 ⟨rfl, hb⟩) | (go_at_call 62; refine (fluid_within _ _ _ _).mono ?_; rintro e w' ⟨rfl, rfl⟩; first | rw [h2] | rw [h3] | rw [h4]))
    go_ret2
    exact ⟨by rw [hs.out]; rfl, HW.out.trans (hb.mono HW.out.size)⟩
  obtain ⟨⟨h2, h3⟩, h4⟩ : (within feed 0 1000000 = true ∧ within flow 0 1000000 = true) ∧ within slip 0 1000 = true := by simpa [Bool.and_eq_true] using h1
  have b1 : 0 ≤ feed ∧ feed ≤ 1000000 := by simpa [within] using h2
  have b2 : 0 ≤ flow ∧ flow ≤ 1000000 := by simpa [within] using h3
  have b3 : 0 ≤ slip ∧ slip ≤ 1000 := by simpa [within] using h4
  have hg := ((goodSeg_iff s).1 h0).1
  have a0 := hg.area0
  have a1 := hg.area1
  have m1 : 0 ≤ slip * s.Area ∧ slip * s.Area ≤ 1000 * 5000 := ⟨Int.mul_nonneg (by omega) (by omega), Int.mul_le_mul b3.2 a1 (by omega) (by omega)⟩
  obtain ⟨m10, m11⟩ := m1
  have hw1 : IntKind.i64.wrap (slip * s.Area) = slip * s.Area := IntWalk.i64_in _ (by omega)
  have hw2 : IntKind.i64.wrap (flow - slip * s.Area) = flow - slip * s.Area := IntWalk.i64_in _ (by omega)
  have hw3 : IntKind.i64.wrap (1000 * feed) = 1000 * feed := IntWalk.i64_in _ (by omega)
  have hd : Hid (Mpl.load s feed flow slip = if flow - slip * s.Area ≤ 0 then (0, false) else (min 1000 (upDiv (1000 * feed) (flow - slip * s.Area)), true)) := by
    simp [Mpl.load, h0, h2, h3, h4, Hid]
  rw [hd.out]
  clear hg hd h0 h1 a0 a1
  by_cases hq : flow - slip * s.Area ≤ 0
  · rw [if_pos hq]
    have hd : decide (flow - slip * s.Area ≤ 0) = true := decide_eq_true hq
    clear hq
    go_enter Try.func37, Try.ntmps37
    go_wp2_with (first | (go_at_call 77; refine (HSG.out _).mono ?_; rintro e w1 ⟨rfl, hb⟩; have q2 := seg_box3 (HB.out.under hb)) | (go_at_call 62; refine (fluid_within _ _ _ _).mono ?_; rintro e w' ⟨rfl, rfl⟩; first | rw [h2] | rw [h3] | rw [h4]))
    go_ret2
    exact ⟨rfl, HW.out.trans (hb.mono HW.out.size)⟩
  · rw [if_neg hq]
    have hd : decide (flow - slip * s.Area ≤ 0) = false := decide_eq_false hq
    have HU := Lib.hid (fun w => fluid_up (1000 * feed) (flow - slip * s.Area) w (by omega) (by omega) (by omega) (by omega))
    clear hq
    go_enter Try.func37, Try.ntmps37
    go_wp2_with (first | (go_at_call 77; refine (HSG.out _).mono ?_; rintro e w1 ⟨rfl, hb⟩; have q2 := seg_box3 (HB.out.under hb)) | (go_at_call 62; refine (fluid_within _ _ _ _).mono ?_; rintro e w' ⟨rfl, rfl⟩; first | rw [h2] | rw [h3] | rw [h4]) | (go_at_call 78; refine (HU.out _).mono ?_; rintro e w' ⟨rfl, rfl⟩))
    all_goals
      go_ret2
      exact ⟨ret_ib (by omega) rfl, HW.out.trans (hb.mono HW.out.size)⟩

end Go.Proofs.Ytkommjjpaklenaa
