/- Walks of the reference of layer 3: segments, cuttings. -/
import Derived.Test.YtkommjjpaklenaaFRefGas
namespace Mpl
theorem goodSeg_chain (s : Seg) : goodSeg s = (decide (1 ≤ s.Long) && decide (s.Long ≤ 1048576) && decide (0 ≤ s.Rise) && decide (s.Rise ≤ s.Long) && decide (1 ≤ s.Area) && decide (s.Area ≤ 5000) && decide (1 ≤ s.Gap) && decide (s.Gap ≤ 200)) := by
  rw [Bool.eq_iff_iff]
  simp only [goodSeg, fairSeg, within, Bool.and_eq_true, decide_eq_true_eq]
  omega
/-- what the reference asks of a load -/
def loadOk (s : Seg) (feed flow slip : Int) : Bool := goodSeg s && decide (0 ≤ feed) && decide (feed ≤ 1000000) && decide (0 ≤ flow) && decide (flow ≤ 1000000) && decide (0 ≤ slip) && decide (slip ≤ 1000)
theorem load_ok (s : Seg) (feed flow slip : Int) : Mpl.load s feed flow slip = if loadOk s feed flow slip then (if flow - slip * s.Area ≤ 0 then (0, false) else (min 1000 (upDiv (1000 * feed) (flow - slip * s.Area)), true)) else (0, false) := by
  unfold Mpl.load
  have : (goodSeg s && within feed 0 1000000 && within flow 0 1000000 && within slip 0 1000) = loadOk s feed flow slip := by
    unfold loadOk
    rw [Bool.eq_iff_iff]
    simp only [within, Bool.and_eq_true, decide_eq_true_eq]
    constructor
    · rintro ⟨⟨⟨h, _⟩, _⟩, _⟩; refine ⟨⟨⟨⟨⟨⟨h, ?_⟩, ?_⟩, ?_⟩, ?_⟩, ?_⟩, ?_⟩ <;> omega
    · rintro ⟨⟨⟨⟨⟨⟨h, _⟩, _⟩, _⟩, _⟩, _⟩, _⟩; refine ⟨⟨⟨h, ?_⟩, ?_⟩, ?_⟩ <;> omega
  rw [this]
def mixedOk (a r l : Int) : Bool := decide (0 ≤ a) && decide (a ≤ 40000) && decide (0 ≤ r) && decide (r ≤ 40000) && decide (0 ≤ l) && decide (l ≤ 1000)
theorem mixed_ok (a r l : Int) : Mpl.mixed a r l = if mixedOk a r l then upDiv (1000 * a + (r - a) * l) 1000 else 0 := by
  unfold Mpl.mixed
  have : (within a 0 40000 && within r 0 40000 && within l 0 1000) = mixedOk a r l := by
    unfold mixedOk
    rw [Bool.eq_iff_iff]
    simp only [within, Bool.and_eq_true, decide_eq_true_eq]
    omega
  rw [this]
  have e : a * (1000 - l) + r * l = 1000 * a + (r - a) * l := by rw [Int.mul_sub, Int.sub_mul]; omega
  rw [e]
end Mpl
namespace Go.Proofs.Ytkommjjpaklenaa
open Go.RowKit Go.Shelf Mpl

set_option maxHeartbeats 4000000 in
theorem ref03_Seg (s : Seg) (w : World) :
    Calls Try.prog 79 #[segV s] w fun e w' => e = .returned (.bool (goodSeg s)) ∧ Below w.heap.size w w' := by
  rw [goodSeg_chain]
  unfold segV
  generalize s.Long = a at *
  generalize s.Rise = b at *
  generalize s.Area = c at *
  generalize s.Gap = d at *
  cases h1 : decide (1 ≤ a)
  · go_enter Try.func79, Try.ntmps79
    go_wp2_with fail
    go_ret
    exact ⟨rfl, (by repeat (first | exact Below.refl _ _ | assumption | refine Below.setCell ?_ (by first | (simp; done) | (simp; omega)) _ | refine belowDrewN ?_ _ | refine Below.drew ?_ | refine Below.alloc ?_ (by first | (simp; done) | (simp; omega)) _))⟩
  cases h2 : decide (a ≤ 1048576)
  · go_enter Try.func79, Try.ntmps79
    go_wp2_with fail
    go_ret
    exact ⟨rfl, (by repeat (first | exact Below.refl _ _ | assumption | refine Below.setCell ?_ (by first | (simp; done) | (simp; omega)) _ | refine belowDrewN ?_ _ | refine Below.drew ?_ | refine Below.alloc ?_ (by first | (simp; done) | (simp; omega)) _))⟩
  cases h3 : decide (0 ≤ b)
  · go_enter Try.func79, Try.ntmps79
    go_wp2_with fail
    go_ret
    exact ⟨rfl, (by repeat (first | exact Below.refl _ _ | assumption | refine Below.setCell ?_ (by first | (simp; done) | (simp; omega)) _ | refine belowDrewN ?_ _ | refine Below.drew ?_ | refine Below.alloc ?_ (by first | (simp; done) | (simp; omega)) _))⟩
  cases h4 : decide (b ≤ a)
  · go_enter Try.func79, Try.ntmps79
    go_wp2_with fail
    go_ret
    exact ⟨rfl, (by repeat (first | exact Below.refl _ _ | assumption | refine Below.setCell ?_ (by first | (simp; done) | (simp; omega)) _ | refine belowDrewN ?_ _ | refine Below.drew ?_ | refine Below.alloc ?_ (by first | (simp; done) | (simp; omega)) _))⟩
  cases h5 : decide (1 ≤ c)
  · go_enter Try.func79, Try.ntmps79
    go_wp2_with fail
    go_ret
    exact ⟨rfl, (by repeat (first | exact Below.refl _ _ | assumption | refine Below.setCell ?_ (by first | (simp; done) | (simp; omega)) _ | refine belowDrewN ?_ _ | refine Below.drew ?_ | refine Below.alloc ?_ (by first | (simp; done) | (simp; omega)) _))⟩
  cases h6 : decide (c ≤ 5000)
  · go_enter Try.func79, Try.ntmps79
    go_wp2_with fail
    go_ret
    exact ⟨rfl, (by repeat (first | exact Below.refl _ _ | assumption | refine Below.setCell ?_ (by first | (simp; done) | (simp; omega)) _ | refine belowDrewN ?_ _ | refine Below.drew ?_ | refine Below.alloc ?_ (by first | (simp; done) | (simp; omega)) _))⟩
  cases h7 : decide (1 ≤ d)
  · go_enter Try.func79, Try.ntmps79
    go_wp2_with fail
    go_ret
    exact ⟨rfl, (by repeat (first | exact Below.refl _ _ | assumption | refine Below.setCell ?_ (by first | (simp; done) | (simp; omega)) _ | refine belowDrewN ?_ _ | refine Below.drew ?_ | refine Below.alloc ?_ (by first | (simp; done) | (simp; omega)) _))⟩
  · go_enter Try.func79, Try.ntmps79
    go_wp2_with fail
    go_ret
    exact ⟨rfl, (by repeat (first | exact Below.refl _ _ | assumption | refine Below.setCell ?_ (by first | (simp; done) | (simp; omega)) _ | refine belowDrewN ?_ _ | refine Below.drew ?_ | refine Below.alloc ?_ (by first | (simp; done) | (simp; omega)) _))⟩

set_option maxHeartbeats 4000000 in
theorem ref03_Mixed (a r l : Int) (w : World) :
    Calls Try.prog 40 #[.int .i64 a, .int .i64 r, .int .i64 l] w fun e w' => e = .returned (.int .i64 (Mpl.mixed a r l)) ∧ w = w' := by
  have hs := Lib.hid (mixed_ok a r l)
  generalize Mpl.mixed a r l = res at *
  by_cases h1 : 0 ≤ a
  case neg =>
    have hf : Hid (res = 0) := by unfold Hid; rw [hs.out]; simp [mixedOk, h1]
    have d1 : decide (a < 0) = true := decide_eq_true (by omega)
    go_enter Try.func40, Try.ntmps40
    go_wp2_with fail
    go_ret
    exact ⟨ret_int hf.out.symm, rfl⟩
  have d1 : decide (a < 0) = false := decide_eq_false (by omega)
  by_cases h2 : a ≤ 40000
  case neg =>
    have hf : Hid (res = 0) := by unfold Hid; rw [hs.out]; simp [mixedOk, h2]
    have d2 : decide (40000 < a) = true := decide_eq_true (by omega)
    go_enter Try.func40, Try.ntmps40
    go_wp2_with fail
    go_ret
    exact ⟨ret_int hf.out.symm, rfl⟩
  have d2 : decide (40000 < a) = false := decide_eq_false (by omega)
  by_cases h3 : 0 ≤ r
  case neg =>
    have hf : Hid (res = 0) := by unfold Hid; rw [hs.out]; simp [mixedOk, h3]
    have d3 : decide (r < 0) = true := decide_eq_true (by omega)
    go_enter Try.func40, Try.ntmps40
    go_wp2_with fail
    go_ret
    exact ⟨ret_int hf.out.symm, rfl⟩
  have d3 : decide (r < 0) = false := decide_eq_false (by omega)
  by_cases h4 : r ≤ 40000
  case neg =>
    have hf : Hid (res = 0) := by unfold Hid; rw [hs.out]; simp [mixedOk, h4]
    have d4 : decide (40000 < r) = true := decide_eq_true (by omega)
    go_enter Try.func40, Try.ntmps40
    go_wp2_with fail
    go_ret
    exact ⟨ret_int hf.out.symm, rfl⟩
  have d4 : decide (40000 < r) = false := decide_eq_false (by omega)
  by_cases h5 : 0 ≤ l
  case neg =>
    have hf : Hid (res = 0) := by unfold Hid; rw [hs.out]; simp [mixedOk, h5]
    have d5 : decide (l < 0) = true := decide_eq_true (by omega)
    go_enter Try.func40, Try.ntmps40
    go_wp2_with fail
    go_ret
    exact ⟨ret_int hf.out.symm, rfl⟩
  have d5 : decide (l < 0) = false := decide_eq_false (by omega)
  by_cases h6 : l ≤ 1000
  case neg =>
    have hf : Hid (res = 0) := by unfold Hid; rw [hs.out]; simp [mixedOk, h6]
    have d6 : decide (1000 < l) = true := decide_eq_true (by omega)
    go_enter Try.func40, Try.ntmps40
    go_wp2_with fail
    go_ret
    exact ⟨ret_int hf.out.symm, rfl⟩
  have d6 : decide (1000 < l) = false := decide_eq_false (by omega)
  have hf : Hid (res = upDiv (1000 * a + (r - a) * l) 1000) := by unfold Hid; rw [hs.out]; simp [mixedOk, h1, h2, h3, h4, h5, h6]
  have m0 : 0 ≤ a * (1000 - l) ∧ 0 ≤ r * l := ⟨Int.mul_nonneg (by omega) (by omega), Int.mul_nonneg (by omega) (by omega)⟩
  have m1 : -40000 * 1000 ≤ (r - a) * l ∧ (r - a) * l ≤ 40000 * 1000 := by
    have a1 := Int.mul_le_mul_of_nonneg_left h6 (show 0 ≤ r by omega)
    have a2 := Int.mul_le_mul_of_nonneg_left h6 (show 0 ≤ a by omega)
    have a3 := Int.mul_nonneg h1 h5
    have a4 := Int.mul_nonneg h3 h5
    rw [Int.sub_mul]
    omega
  have m2 : 0 ≤ 1000 * a + (r - a) * l := by
    have e : a * (1000 - l) + r * l = 1000 * a + (r - a) * l := by rw [Int.mul_sub, Int.sub_mul]; omega
    omega
  obtain ⟨m10, m11⟩ := m1
  clear m0
  have hw1 : IntKind.i64.wrap (1000 * a) = 1000 * a := IntWalk.i64_in _ (by omega)
  have hw2 : IntKind.i64.wrap (r - a) = r - a := IntWalk.i64_in _ (by omega)
  have hw3 : IntKind.i64.wrap ((r - a) * l) = (r - a) * l := IntWalk.i64_in _ (by omega)
  have hw4 : IntKind.i64.wrap (1000 * a + (r - a) * l) = 1000 * a + (r - a) * l := IntWalk.i64_in _ (by omega)
  have HU := Lib.hid (fun w => ref03_up (1000 * a + (r - a) * l) 1000 w m2 (by omega) (by omega) (by omega))
  go_enter Try.func40, Try.ntmps40
  go_wp2_with (go_at_call 80; (try simp only [hw1, hw2, hw3, hw4]); refine (HU.out _).mono ?_; rintro e w' ⟨rfl, rfl⟩)
  go_ret
  exact ⟨ret_int hf.out.symm, rfl⟩

set_option maxHeartbeats 4000000 in
theorem ref03_Load (s : Seg) (feed flow slip : Int) (w : World) :
    Calls Try.prog 38 #[segV s, .int .i64 feed, .int .i64 flow, .int .i64 slip] w fun e w' => e = .returned (.tuple #[.int .i64 (Mpl.load s feed flow slip).1, .bool (Mpl.load s feed flow slip).2]) ∧ Below w.heap.size w w' := by
  have HSG := Lib.hid (fun w => ref03_Seg s w)
  have hs := Lib.hid (load_ok s feed flow slip)
  have b0 : Box (w.alloc (.cells #[.int .i64 s.Long, .int .i64 s.Rise, .int .i64 s.Area, .int .i64 s.Gap] 29)) w.heap.size 29 #[.int .i64 s.Long, .int .i64 s.Rise, .int .i64 s.Area, .int .i64 s.Gap] := Box.new _ _ _ rfl
  have hw0 : Below w.heap.size w (w.alloc (.cells #[.int .i64 s.Long, .int .i64 s.Rise, .int .i64 s.Area, .int .i64 s.Gap] 29)) := (by repeat (first | exact Below.refl _ _ | assumption | refine Below.setCell ?_ (by first | (simp; done) | (simp; omega)) _ | refine belowDrewN ?_ _ | refine Below.drew ?_ | refine Below.alloc ?_ (by first | (simp; done) | (simp; omega)) _))
  have HB := Lib.hid b0
  have HW := Lib.hid hw0
  clear b0 hw0
  unfold segV at *
  generalize Mpl.load s feed flow slip = res at *
  cases h0 : goodSeg s
  · have hf : Hid (res = (0, false)) := by unfold Hid; rw [hs.out]; simp [loadOk, h0]
    rw [h0] at HSG
    go_enter Try.func38, Try.ntmps38
    go_wp2_with fail
    refine (HSG.out _).mono ?_
    rintro e w1 ⟨rfl, hb⟩
    go_wp2_with fail
    go_ret2
    exact ⟨by rw [hf.out]; rfl, HW.out.trans (hb.mono HW.out.size)⟩
  rw [h0] at HSG
  by_cases h1 : 0 ≤ feed
  case neg =>
    have hf : Hid (res = (0, false)) := by unfold Hid; rw [hs.out]; simp [loadOk, h1]
    have d1 : decide (feed < 0) = true := decide_eq_true (by omega)
    go_enter Try.func38, Try.ntmps38
    go_wp2_with (go_at_call 79; refine (HSG.out _).mono ?_; rintro e w1 ⟨rfl, hb⟩)
    go_ret2
    exact ⟨by rw [hf.out]; rfl, HW.out.trans (hb.mono HW.out.size)⟩
  have d1 : decide (feed < 0) = false := decide_eq_false (by omega)
  by_cases h2 : feed ≤ 1000000
  case neg =>
    have hf : Hid (res = (0, false)) := by unfold Hid; rw [hs.out]; simp [loadOk, h2]
    have d2 : decide (1000000 < feed) = true := decide_eq_true (by omega)
    go_enter Try.func38, Try.ntmps38
    go_wp2_with (go_at_call 79; refine (HSG.out _).mono ?_; rintro e w1 ⟨rfl, hb⟩)
    go_ret2
    exact ⟨by rw [hf.out]; rfl, HW.out.trans (hb.mono HW.out.size)⟩
  have d2 : decide (1000000 < feed) = false := decide_eq_false (by omega)
  by_cases h3 : 0 ≤ flow
  case neg =>
    have hf : Hid (res = (0, false)) := by unfold Hid; rw [hs.out]; simp [loadOk, h3]
    have d3 : decide (flow < 0) = true := decide_eq_true (by omega)
    go_enter Try.func38, Try.ntmps38
    go_wp2_with (go_at_call 79; refine (HSG.out _).mono ?_; rintro e w1 ⟨rfl, hb⟩)
    go_ret2
    exact ⟨by rw [hf.out]; rfl, HW.out.trans (hb.mono HW.out.size)⟩
  have d3 : decide (flow < 0) = false := decide_eq_false (by omega)
  by_cases h4 : flow ≤ 1000000
  case neg =>
    have hf : Hid (res = (0, false)) := by unfold Hid; rw [hs.out]; simp [loadOk, h4]
    have d4 : decide (1000000 < flow) = true := decide_eq_true (by omega)
    go_enter Try.func38, Try.ntmps38
    go_wp2_with (go_at_call 79; refine (HSG.out _).mono ?_; rintro e w1 ⟨rfl, hb⟩)
    go_ret2
    exact ⟨by rw [hf.out]; rfl, HW.out.trans (hb.mono HW.out.size)⟩
  have d4 : decide (1000000 < flow) = false := decide_eq_false (by omega)
  by_cases h5 : 0 ≤ slip
  case neg =>
    have hf : Hid (res = (0, false)) := by unfold Hid; rw [hs.out]; simp [loadOk, h5]
    have d5 : decide (slip < 0) = true := decide_eq_true (by omega)
    go_enter Try.func38, Try.ntmps38
    go_wp2_with (go_at_call 79; refine (HSG.out _).mono ?_; rintro e w1 ⟨rfl, hb⟩)
    go_ret2
    exact ⟨by rw [hf.out]; rfl, HW.out.trans (hb.mono HW.out.size)⟩
  have d5 : decide (slip < 0) = false := decide_eq_false (by omega)
  by_cases h6 : slip ≤ 1000
  case neg =>
    have hf : Hid (res = (0, false)) := by unfold Hid; rw [hs.out]; simp [loadOk, h6]
    have d6 : decide (1000 < slip) = true := decide_eq_true (by omega)
    go_enter Try.func38, Try.ntmps38
    go_wp2_with (go_at_call 79; refine (HSG.out _).mono ?_; rintro e w1 ⟨rfl, hb⟩)
    go_ret2
    exact ⟨by rw [hf.out]; rfl, HW.out.trans (hb.mono HW.out.size)⟩
  have d6 : decide (1000 < slip) = false := decide_eq_false (by omega)
  have hd : Hid (res = if flow - slip * s.Area ≤ 0 then (0, false) else (min 1000 (upDiv (1000 * feed) (flow - slip * s.Area)), true)) := by
    unfold Hid; rw [hs.out]; simp [loadOk, h0, h1, h2, h3, h4, h5, h6]
  have hg := ((goodSeg_iff s).1 h0).1
  have a0 := hg.area0
  have a1 := hg.area1
  have m1 : 0 ≤ slip * s.Area ∧ slip * s.Area ≤ 1000 * 5000 := ⟨Int.mul_nonneg (by omega) (by omega), Int.mul_le_mul h6 a1 (by omega) (by omega)⟩
  obtain ⟨m10, m11⟩ := m1
  have hw1 : IntKind.i64.wrap (slip * s.Area) = slip * s.Area := IntWalk.i64_in _ (by omega)
  have hw2 : IntKind.i64.wrap (flow - slip * s.Area) = flow - slip * s.Area := IntWalk.i64_in _ (by omega)
  have hw3 : IntKind.i64.wrap (1000 * feed) = 1000 * feed := IntWalk.i64_in _ (by omega)
  clear hg h0 a0 a1 hs
  by_cases hq : flow ≤ slip * s.Area
  · have hf : Hid (res = (0, false)) := by unfold Hid; rw [hd.out, if_pos (by omega)]
    have d7 : decide (flow ≤ slip * s.Area) = true := decide_eq_true hq
    clear hd
    go_enter Try.func38, Try.ntmps38
    go_wp2_with (go_at_call 79; refine (HSG.out _).mono ?_; rintro e w1 ⟨rfl, hb⟩; have q2 := seg_box3 (HB.out.under hb))
    go_ret2
    exact ⟨by rw [hf.out]; rfl, HW.out.trans (hb.mono HW.out.size)⟩
  · have hf : Hid (res = (min 1000 (upDiv (1000 * feed) (flow - slip * s.Area)), true)) := by unfold Hid; rw [hd.out, if_neg (by omega)]
    have d7 : decide (flow ≤ slip * s.Area) = false := decide_eq_false hq
    have HU := Lib.hid (fun w => ref03_up (1000 * feed) (flow - slip * s.Area) w (by omega) (by omega) (by omega) (by omega))
    clear hd
    go_enter Try.func38, Try.ntmps38
    go_wp2_with (first | (go_at_call 79; refine (HSG.out _).mono ?_; rintro e w1 ⟨rfl, hb⟩; have q2 := seg_box3 (HB.out.under hb)) | (go_at_call 80; (try simp only [hw1, hw2, hw3]); refine (HU.out _).mono ?_; rintro e w' ⟨rfl, rfl⟩))
    all_goals
      go_ret2
      exact ⟨ret_ib (by rw [hf.out]; simp only; omega) (by rw [hf.out]), HW.out.trans (hb.mono HW.out.size)⟩

end Go.Proofs.Ytkommjjpaklenaa
