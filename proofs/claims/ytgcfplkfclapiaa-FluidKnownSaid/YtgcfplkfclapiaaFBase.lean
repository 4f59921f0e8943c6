/- Walks of the package fluid: small functions of numbers. -/
import Derived.Test.YtgcfplkfclapiaaProven
import Derived.Test.YtgcfplkfclapiaaFFlow
import Derived.IntWalk
namespace Go.Proofs.Ytgcfplkfclapiaa
open Go.RowKit Go.Shelf Mpl

theorem fluid_within (n lo hi : Int) (w : World) :
    Calls Try.prog 62 #[.int .i64 n, .int .i64 lo, .int .i64 hi] w fun e w' => e = .returned (.bool (within n lo hi)) ∧ w = w' := by
  unfold within
  by_cases h1 : lo ≤ n
  · by_cases h2 : n ≤ hi
    · go_enter Try.func62, Try.ntmps62
      go_wp2
      go_ret
      simp [h1, h2]
    · go_enter Try.func62, Try.ntmps62
      go_wp2
      go_ret
      simp [h2]
  · go_enter Try.func62, Try.ntmps62
    go_wp2
    go_ret
    simp
    omega

def segV (s : Seg) : Value := .agg #[.int .i64 s.Long, .int .i64 s.Rise, .int .i64 s.Area, .int .i64 s.Gap]
def slugV (s : Slug) : Value := .agg #[.int .i64 s.Weight, .int .i64 s.Volume]
def gasV (g : Gas) : Value := .agg #[.int .i64 g.K, .int .i64 g.Power]
def mudV (g : Mud) : Value := .agg #[.int .i64 g.Yield, .int .i64 g.Visc]

set_option maxHeartbeats 1000000 in
theorem fluid_fair (s : Seg) (w : World) :
    Calls Try.prog 70 #[segV s] w fun e w' => e = .returned (.bool (fairSeg s)) ∧ Below w.heap.size w w' := by
  unfold segV
  by_cases h0 : 1 ≤ s.Long
  · cases h1 : within s.Rise 0 s.Long
    · have hs : Hid (fairSeg s = false) := by simp [fairSeg, h1, Hid]
      go_enter Try.func70, Try.ntmps70
      go_wp2_with (go_at_call 62; refine (fluid_within _ _ _ _).mono ?_; rintro e w' ⟨rfl, rfl⟩)
      go_ret
      exact ⟨by rw [hs.out]; rfl, (by repeat (first | exact Below.refl _ _ | assumption | refine Below.setCell ?_ (by first | (simp; done) | (simp; omega)) _ | refine belowDrewN ?_ _ | refine Below.drew ?_ | refine Below.alloc ?_ (by first | (simp; done) | (simp; omega)) _))⟩
    cases h2 : within s.Area 1 5000
    · have hs : Hid (fairSeg s = false) := by simp [fairSeg, h2, Hid]
      go_enter Try.func70, Try.ntmps70
      go_wp2_with (go_at_call 62; refine (fluid_within _ _ _ _).mono ?_; rintro e w' ⟨rfl, rfl⟩)
      go_ret
      exact ⟨by rw [hs.out]; rfl, (by repeat (first | exact Below.refl _ _ | assumption | refine Below.setCell ?_ (by first | (simp; done) | (simp; omega)) _ | refine belowDrewN ?_ _ | refine Below.drew ?_ | refine Below.alloc ?_ (by first | (simp; done) | (simp; omega)) _))⟩
    have hs : Hid (fairSeg s = within s.Gap 1 200) := by simp [fairSeg, h0, h1, h2, Hid]
    go_enter Try.func70, Try.ntmps70
    go_wp2_with (go_at_call 62; refine (fluid_within _ _ _ _).mono ?_; rintro e w' ⟨rfl, rfl⟩)
    go_ret
    exact ⟨by rw [hs.out]; rfl, (by repeat (first | exact Below.refl _ _ | assumption | refine Below.setCell ?_ (by first | (simp; done) | (simp; omega)) _ | refine belowDrewN ?_ _ | refine Below.drew ?_ | refine Below.alloc ?_ (by first | (simp; done) | (simp; omega)) _))⟩
  · have hs : Hid (fairSeg s = false) := by simp [fairSeg, h0, Hid]
    go_enter Try.func70, Try.ntmps70
    go_wp2_with fail
    go_ret
    exact ⟨by rw [hs.out]; rfl, (by repeat (first | exact Below.refl _ _ | assumption | refine Below.setCell ?_ (by first | (simp; done) | (simp; omega)) _ | refine belowDrewN ?_ _ | refine Below.drew ?_ | refine Below.alloc ?_ (by first | (simp; done) | (simp; omega)) _))⟩

theorem fluid_segment (s : Seg) (w : World) :
    Calls Try.prog 81 #[segV s] w fun e w' => e = .returned (.bool (goodSeg s)) ∧ Below w.heap.size w w' := by
  have H := Lib.hid (fun w => fluid_fair s w)
  unfold segV at *
  have b0 : Box (w.alloc (.cells #[.int .i64 s.Long, .int .i64 s.Rise, .int .i64 s.Area, .int .i64 s.Gap] 29)) w.heap.size 29 #[.int .i64 s.Long, .int .i64 s.Rise, .int .i64 s.Area, .int .i64 s.Gap] := Box.new _ _ _ rfl
  have HB := Lib.hid b0
  clear b0
  cases h1 : fairSeg s
  · have hs : Hid (goodSeg s = false) := by simp [goodSeg, h1, Hid]
    rw [h1] at H
    go_enter Try.func81, Try.ntmps81
    go_wp2_with (go_at_call 70; refine (H.out _).mono ?_; rintro e w' ⟨rfl, hb⟩)
    go_ret
    exact ⟨by rw [hs.out]; rfl, ((Below.refl _ w).alloc (Nat.le_refl _) _).trans (hb.mono (by simp))⟩
  · have hs : Hid (goodSeg s = decide (s.Long ≤ 1048576)) := by simp [goodSeg, h1, Hid]
    rw [h1] at H
    go_enter Try.func81, Try.ntmps81
    go_wp2_with fail
    refine (H.out _).mono ?_
    rintro e w' ⟨rfl, hb⟩
    have q := (HB.out.under hb).cell 0
    simp only [List.getElem?_toArray, List.getElem?_cons_zero] at q
    go_wp2_with fail
    go_ret
    exact ⟨by rw [hs.out]; rfl, ((Below.refl _ w).alloc (Nat.le_refl _) _).trans (hb.mono (by simp))⟩

theorem fluid_up (a b : Int) (w : World) (h0 : 0 ≤ a) (h1 : a ≤ 2305843009213693952) (h2 : 1 ≤ b) (h3 : b ≤ 2305843009213693952) :
    Calls Try.prog 82 #[.int .i64 a, .int .i64 b] w fun e w' => e = .returned (.int .i64 (upDiv a b)) ∧ w = w' := by
  have hz : (b == 0) = false := beq_eq_false_iff_ne.2 (by omega)
  have hd : Hid (upDiv a b = (a + b - 1) / b) := rfl
  have hz1 : 0 ≤ a + b - 1 := by omega
  have hq : 0 ≤ (a + b - 1) / b := Int.ediv_nonneg (by omega) (by omega)
  have hq2 : (a + b - 1) / b ≤ a + b - 1 := Int.ediv_le_self _ (by omega)
  go_enter Try.func82, Try.ntmps82
  go_wp2_with fail
  go_ret
  exact ⟨ret_int hd.out.symm, rfl⟩

theorem fluid_gas (g : Gas) (w : World) :
    Calls Try.prog 85 #[gasV g] w fun e w' => e = .returned (.bool (gasOk g)) ∧ Below w.heap.size w w' := by
  unfold gasV
  cases h1 : within g.K 0 1152921504606846976
  · have hs : Hid (gasOk g = false) := by simp [gasOk, h1, Hid]
    go_enter Try.func85, Try.ntmps85
    go_wp2_with (go_at_call 62; refine (fluid_within _ _ _ _).mono ?_; rintro e w' ⟨rfl, rfl⟩)
    go_ret
    exact ⟨by rw [hs.out]; rfl, (by repeat (first | exact Below.refl _ _ | assumption | refine Below.setCell ?_ (by first | (simp; done) | (simp; omega)) _ | refine belowDrewN ?_ _ | refine Below.drew ?_ | refine Below.alloc ?_ (by first | (simp; done) | (simp; omega)) _))⟩
  · have hs : Hid (gasOk g = within g.Power 0 1099511627776) := by simp [gasOk, h1, Hid]
    go_enter Try.func85, Try.ntmps85
    go_wp2_with (go_at_call 62; refine (fluid_within _ _ _ _).mono ?_; rintro e w' ⟨rfl, rfl⟩)
    go_ret
    exact ⟨by rw [hs.out]; rfl, (by repeat (first | exact Below.refl _ _ | assumption | refine Below.setCell ?_ (by first | (simp; done) | (simp; omega)) _ | refine belowDrewN ?_ _ | refine Below.drew ?_ | refine Below.alloc ?_ (by first | (simp; done) | (simp; omega)) _))⟩

theorem gas_box (g : Gas) (w : World) : Box (w.alloc (.cells #[.int .i64 g.K, .int .i64 g.Power] 85)) w.heap.size 85 #[.int .i64 g.K, .int .i64 g.Power] := Box.new _ _ _ rfl
theorem gas_load {w : World} {g : Nat} {a b : Value} (h : Box w g 85 #[a, b]) : w.cell? ⟨g, 0, none⟩ = some a ∧ w.cell? ⟨g, 1, none⟩ = some b := ⟨h.cell 0, h.cell 1⟩

set_option maxHeartbeats 1000000 in
theorem fluid_Free (g : Gas) (p : Int) (w : World) :
    Calls Try.prog 45 #[gasV g, .int .i64 p] w fun e w' => e = .returned (.int .i64 (free g p)) ∧ Below w.heap.size w w' := by
  have H := Lib.hid (fun w => fluid_gas g w)
  have HB := Lib.hid (gas_box g w)
  unfold gasV at *
  cases h1 : gasOk g
  · have hs : Hid (free g p = 0) := by simp [free, h1, Hid]
    rw [h1] at H
    clear HB
    go_enter Try.func45, Try.ntmps45
    go_wp2_with (go_at_call 85; refine (H.out _).mono ?_; rintro e w' ⟨rfl, hb⟩)
    go_ret
    exact ⟨by rw [hs.out]; rfl, ((Below.refl _ w).alloc (Nat.le_refl _) _).trans (hb.mono (by simp))⟩
  · cases h2 : within p 1 68719476736
    · have hs : Hid (free g p = 0) := by simp [free, h2, Hid]
      rw [h1] at H
      clear HB
      go_enter Try.func45, Try.ntmps45
      go_wp2_with fail
      refine (H.out _).mono ?_
      rintro e w' ⟨rfl, hb⟩
      have hb' := ((Below.refl _ w).alloc (Nat.le_refl _) (.cells #[.int .i64 g.K, .int .i64 g.Power] 85)).trans (hb.mono (by simp))
      clear hb
      go_wp2_with (go_at_call 62; refine (fluid_within _ _ _ _).mono ?_; rintro e w' ⟨rfl, rfl⟩)
      go_ret
      exact ⟨by rw [hs.out]; rfl, hb'⟩
    · have hg := (gasOk_iff g).1 h1
      have hp : 1 ≤ p ∧ p ≤ 68719476736 := by simpa [within] using h2
      obtain ⟨p1, p2⟩ := hp
      have hs := Lib.hid (free_eq hg p1 p2)
      obtain ⟨k0, k1, m0, m1⟩ := hg
      have d0 : 0 ≤ p / 1048576 := Int.ediv_nonneg (by omega) (by omega)
      have d1 : p / 1048576 ≤ 65536 := by omega
      have pr0 : 0 ≤ g.Power * (p / 1048576) := Int.mul_nonneg m0 d0
      have pr1 : g.Power * (p / 1048576) ≤ 72057594037927936 := by
        have a := Int.mul_le_mul_of_nonneg_left d1 m0
        omega
      rw [h1] at H
      go_enter Try.func45, Try.ntmps45
      go_wp2_with fail
      refine (H.out _).mono ?_
      rintro e w' ⟨rfl, hb⟩
      obtain ⟨q0, q1⟩ := gas_load (HB.out.under hb)
      have hb' := ((Below.refl _ w).alloc (Nat.le_refl _) (.cells #[.int .i64 g.K, .int .i64 g.Power] 85)).trans (hb.mono (by simp))
      clear hb
      go_wp2_with (go_at_call 62; refine (fluid_within _ _ _ _).mono ?_; rintro e w' ⟨rfl, rfl⟩)
      all_goals
        go_ret
        exact ⟨ret_int (by rw [hs.out]; omega), hb'⟩

theorem quiet_of {P : Program} {g : Nat} {args : Array Value} {w : World} {v : Value} (h : Calls P g args w fun e w' => e = .returned v ∧ w = w') : Calls P g args w fun e w' => e = .returned v ∧ w' = w := h.mono fun _ _ ⟨h1, h2⟩ => ⟨h1, h2.symm⟩

theorem load_rng {w : World} {g : Nat} {x y : Int} {t : Nat} (b : Box w g t #[.int .i64 x, .int .i64 y]) : (loadVar 34 ⟨g, 0, none⟩).run Try.prog w = .ok (.agg #[.int .i64 x, .int .i64 y]) w := by
  have q0 := b.cell 0
  have q1 := b.cell 1
  simp only [List.getElem?_toArray, List.getElem?_cons_zero, List.getElem?_cons_succ] at q0 q1
  simp [go_sem, q0, q1]

set_option maxHeartbeats 1000000 in
set_option maxRecDepth 100000 in
theorem fluid_Space (g : Gas) (p : Int) (w : World) :
    Calls Try.prog 47 #[gasV g, .int .i64 p] w fun e w' => e = .returned (.agg #[.int .i64 (space g p).Lo, .int .i64 (space g p).Hi]) ∧ Below w.heap.size w w' := by
  have H := Lib.hid (fun w => fluid_Free g p w)
  have hfb := free_bound g p
  have hfp : free g p ≠ 0 → 1 ≤ p ∧ p ≤ 68719476736 := fun h => by
    unfold free at h
    split at h
    · rename_i hc
      simp [within] at hc
      omega
    · exact absurd rfl h
  unfold gasV at *
  obtain ⟨w0, hw0⟩ : ∃ w0, ((w.alloc (.cells #[.int .i64 g.K, .int .i64 g.Power] 85)).alloc (.cells #[.int .i64 0, .int .i64 0] 34)) = w0 := ⟨_, rfl⟩
  have b1 : Box w0 (w.heap.size + 1) 34 #[.int .i64 0, .int .i64 0] := by rw [← hw0]; exact Box.new _ _ _ (by simp)
  have hB0 : Below w.heap.size w w0 := by rw [← hw0]; exact (by repeat (first | exact Below.refl _ _ | assumption | refine Below.setCell ?_ (by first | (simp; done) | (simp; omega)) _ | refine belowDrewN ?_ _ | refine Below.drew ?_ | refine Below.alloc ?_ (by first | (simp; done) | (simp; omega)) _))
  have HW0 := Lib.hid hw0
  have B1 := Lib.hid b1
  have HB0 := Lib.hid hB0
  clear hw0 b1 hB0
  by_cases h0 : free g p = 0
  · have hs : Hid (space g p = ⟨0, 0⟩) := by simp [space, h0, Hid]
    rw [h0] at H
    clear hfb hfp h0
    go_enter Try.func47, Try.ntmps47
    go_wp2_with fail
    rw [HW0.out]
    refine (H.out _).mono ?_
    rintro e w' ⟨rfl, hb⟩
    have b1 := B1.out.under hb
    have B := Lib.hid (HB0.out.trans (hb.mono HB0.out.size))
    have BX := Lib.hid b1
    obtain ⟨q0, q1⟩ := (⟨b1.cell 0, b1.cell 1⟩ : w'.cell? ⟨w.heap.size + 1, 0, none⟩ = some (.int .i64 0) ∧ w'.cell? ⟨w.heap.size + 1, 1, none⟩ = some (.int .i64 0))
    obtain ⟨f0, f1⟩ := (⟨b1.frozen 0, b1.frozen 1⟩ : w'.frozen? ⟨w.heap.size + 1, 0, none⟩ = false ∧ w'.frozen? ⟨w.heap.size + 1, 1, none⟩ = false)
    clear hb b1
    go_wp2_with fail
    refine bodyPost_ret (results_cell1 rfl _ _ _ (w.heap.size + 1) _ rfl (load_rng (t := 34) (by simpa using (BX.out.set_ 0 (.int .i64 0)).set_ 1 (.int .i64 0)))) rfl ⟨by rw [hs.out], ?_⟩
    exact (B.out.setCell (p := ⟨w.heap.size + 1, 0, none⟩) (by simp) _).setCell (p := ⟨w.heap.size + 1, 1, none⟩) (by simp) _
  · obtain ⟨p1, p2⟩ := hfp h0
    have hs : Hid (space g p = ⟨free g p / p, upDiv (free g p) p⟩) := space_eq g p1
    have hz : (free g p == 0) = false := beq_eq_false_iff_ne.2 h0
    have hz2 : (p == 0) = false := beq_eq_false_iff_ne.2 (by omega)
    obtain ⟨h1, h2⟩ := hfb
    have HU := Lib.hid (fun w => fluid_up (free g p) p w h1 (by omega) p1 (by omega))
    have hq : 0 ≤ free g p / p := Int.ediv_nonneg h1 (by omega)
    have hq2 : free g p / p ≤ free g p := Int.ediv_le_self _ h1
    clear hfp h0
    generalize free g p = f at *
    generalize upDiv f p = ud at *
    have hp0 : ¬ p = 0 := by omega
    have hwr : IntKind.i64.wrap (f.tdiv p) = f / p := by
      rw [Int.tdiv_eq_ediv_of_nonneg h1]
      exact IntWalk.i64_in _ (by omega)
    go_enter Try.func47, Try.ntmps47
    go_wp2_with fail
    rw [HW0.out]
    refine (H.out _).mono ?_
    rintro e w' ⟨rfl, hb⟩
    have b1 := B1.out.under hb
    have B := Lib.hid (HB0.out.trans (hb.mono HB0.out.size))
    have BX := Lib.hid b1
    obtain ⟨q0, q1⟩ := (⟨b1.cell 0, b1.cell 1⟩ : w'.cell? ⟨w.heap.size + 1, 0, none⟩ = some (.int .i64 0) ∧ w'.cell? ⟨w.heap.size + 1, 1, none⟩ = some (.int .i64 0))
    obtain ⟨f0, f1⟩ := (⟨b1.frozen 0, b1.frozen 1⟩ : w'.frozen? ⟨w.heap.size + 1, 0, none⟩ = false ∧ w'.frozen? ⟨w.heap.size + 1, 1, none⟩ = false)
    clear hb b1
    go_wp2_with fail
    refine wp_region_still_tail 7 mixed (by kernel_rfl) ?_
    simp only [List.take_succ_cons, List.take_zero, List.drop_succ_cons, List.drop_zero]
    repeat still_step
    still_call (quiet_of (HU.out _))
    repeat still_step
    refine wpStill_nil ?_
    clear hwr
    go_wp2_with fail
    refine bodyPost_ret (results_cell1 rfl _ _ _ (w.heap.size + 1) _ rfl (load_rng (t := 34) (by simpa using ((BX.out.set_ 0 (.int .i64 (f / p))).set_ 1 (.int .i64 ud)).drew))) rfl ⟨by rw [hs.out], ?_⟩
    exact ((B.out.setCell (p := ⟨w.heap.size + 1, 0, none⟩) (by simp) _).setCell (p := ⟨w.heap.size + 1, 1, none⟩) (by simp) _).drew

end Go.Proofs.Ytgcfplkfclapiaa
