/- Walks of the package fluid: the pressure in a column, whole. -/
import Derived.Test.YtnhnheigdlnokaaFPress2
namespace Go.Proofs.Ytnhnheigdlnokaa
open Go.RowKit Go.Shelf Mpl

set_option maxHeartbeats 4000000 in
set_option maxRecDepth 100000 in
theorem fluid_Press (vh : Value) (h : List Seg) (l : List Slug) (A : Option Addr) (c : Nat) (top u : Int) (w : World) (hv : HoleV w w.heap.size vh h) (hin : SegsIn h) (hm : h.length ≤ maxLen) (hl : Slugs w w.heap.size A l) (hlin : SlugsIn l) (hlc : l.length ≤ c) (hlm : c ≤ maxLen) :
    Calls Try.prog 6 #[vh, .slice A l.length c, .int .i64 top, .int .i64 u] w fun e w' => e = .returned (.tuple #[.agg #[.int .i64 (press h l top u).1.Lo, .int .i64 (press h l top u).1.Hi], .int .i64 (press h l top u).2]) ∧ Below w.heap.size w w' := by
  have hvv := hv
  obtain ⟨AH, cH, rfl, hS⟩ := hv
  have HCOL := Lib.hid (fun W (hW : Below w.heap.size w W) => fluid_CheckColumn _ h l A c W (hvv.up hW hW.size) hin hm (hl.up hW hW.size) hlin (by omega))
  have hdef : Hid (press h l top u = if checkColumn h l ≠ 0 then (⟨0, 0⟩, checkColumn h l) else if within top 0 68719476736 && within u 0 (sizeUp h h.length) then (pressAt h l top u, 0) else (⟨0, 0⟩, 2)) := rfl
  by_cases h0 : checkColumn h l = 0
  · have g := (checkColumn_iff h l).1 h0
    rw [if_neg (by simpa using h0)] at hdef
    have HVOL := Lib.hid (fun W (hW : Below w.heap.size w W) => fluid_volume _ h W (hvv.up hW hW.size) g.hole)
    by_cases h1 : (within top 0 68719476736 && within u 0 (sizeUp h h.length)) = true
    · rw [if_pos h1] at hdef
      obtain ⟨b, off, rfl, hb, hc⟩ := hl g.pos
      simp only [Bool.and_eq_true] at h1
      have ht : 0 ≤ top ∧ top ≤ 68719476736 := by simpa [within] using h1.1
      have hu : 0 ≤ u ∧ u ≤ sizeUp h h.length := by simpa [within] using h1.2
      have := press_walk h l AH h.length cH b off c top u w g ht.1 ht.2 hu.1 hu.2 hb hc hlc (fun W hW => by have := HCOL.out W hW; rwa [h0] at this) HVOL.out (fun W hW => fluid_Height _ h W (hvv.up hW hW.size) hin hm) (fun W hW => fluid_rise _ h W (hvv.up hW hW.size) g.hole)
      rw [hdef.out]
      exact this
    · rw [if_neg h1] at hdef
      have b0 : Box ((w.alloc (.cells #[.slice AH h.length cH] 27)).alloc (.cells #[.int .i64 0, .int .i64 0] 30)) w.heap.size 27 #[.slice AH h.length cH] := (Box.new w _ _ rfl).alloc _
      have b1 : Box ((w.alloc (.cells #[.slice AH h.length cH] 27)).alloc (.cells #[.int .i64 0, .int .i64 0] 30)) (w.heap.size + 1) 30 #[.int .i64 0, .int .i64 0] := Box.new _ _ _ (by simp)
      have hB0 : Below w.heap.size w ((w.alloc (.cells #[.slice AH h.length cH] 27)).alloc (.cells #[.int .i64 0, .int .i64 0] 30)) := (by repeat (first | exact Below.refl _ _ | assumption | refine Below.setCell ?_ (by first | (simp; done) | (simp; omega)) _ | refine belowDrewN ?_ _ | refine Below.drew ?_ | refine Below.alloc ?_ (by first | (simp; done) | (simp; omega)) _))
      have B0 := Lib.hid b0
      have B1 := Lib.hid b1
      have HB0 := Lib.hid hB0
      rw [h0] at HCOL
      clear b0 b1 hB0 hvv hS hin hl hlin g h0
      generalize sizeUp h h.length = vol at *
      generalize h.length = nh at *
      generalize l.length = n at *
      cases hw1 : within top 0 68719476736
      · clear h1
        go_enter Try.func6, Try.ntmps6
        go_wp2_with fail
        refine (HCOL.out _ HB0.out).mono ?_
        rintro e w1 ⟨rfl, hb1⟩
        replace B1 := Lib.hid (B1.out.under hb1)
        replace HB0 := Lib.hid (HB0.out.trans (hb1.mono HB0.out.size))
        obtain ⟨q0, q1⟩ := rng_box B1.out
        obtain ⟨f0, f1⟩ := rng_free B1.out
        clear hb1
        go_wp2_with (go_at_call 12; refine (fluid_within _ _ _ _).mono ?_; rintro e w' ⟨rfl, rfl⟩)
        have e0 : Box ((w1.setCell ⟨w.heap.size + 1, 0, none⟩ (.int .i64 0)).setCell ⟨w.heap.size + 1, 1, none⟩ (.int .i64 0)) (w.heap.size + 1) 30 #[.int .i64 0, .int .i64 0] := by simpa using (B1.out.set_ 0 (.int .i64 0)).set_ 1 (.int .i64 0)
        obtain ⟨v0, v1⟩ := rng_box e0
        have hbf := (HB0.out.setCell (p := ⟨w.heap.size + 1, 0, none⟩) (by simp) (.int .i64 0)).setCell (p := ⟨w.heap.size + 1, 1, none⟩) (by simp) (.int .i64 0)
        clear q0 q1 f0 f1 e0
        generalize (w1.setCell ⟨w.heap.size + 1, 0, none⟩ (.int .i64 0)).setCell ⟨w.heap.size + 1, 1, none⟩ (.int .i64 0) = wf at *
        refine bodyPost_ret (v := .tuple #[.agg #[.int .i64 0, .int .i64 0], .int .i64 2]) (by simp [results, Try.results6, go_sem, v0, v1]) rfl ⟨by rw [hdef.out], hbf⟩
      · have hw2 : within u 0 vol = false := by rw [hw1, Bool.true_and] at h1; simpa using h1
        clear h1
        go_enter Try.func6, Try.ntmps6
        go_wp2_with fail
        refine (HCOL.out _ HB0.out).mono ?_
        rintro e w1 ⟨rfl, hb1⟩
        replace B0 := Lib.hid (B0.out.under hb1)
        replace B1 := Lib.hid (B1.out.under hb1)
        replace HB0 := Lib.hid (HB0.out.trans (hb1.mono HB0.out.size))
        have q2 := hole_load B0.out
        clear hb1
        go_wp2_with (go_at_call 12; refine (fluid_within _ _ _ _).mono ?_; rintro e w' ⟨rfl, rfl⟩)
        refine (HVOL.out _ HB0.out).mono ?_
        rintro e w2 ⟨rfl, hb1⟩
        replace B1 := Lib.hid (B1.out.under hb1)
        replace HB0 := Lib.hid (HB0.out.trans (hb1.mono HB0.out.size))
        obtain ⟨q0, q1⟩ := rng_box B1.out
        obtain ⟨f0, f1⟩ := rng_free B1.out
        clear hb1 q2
        go_wp2_with (go_at_call 12; refine (fluid_within _ _ _ _).mono ?_; rintro e w' ⟨rfl, rfl⟩)
        have e0 : Box ((w2.setCell ⟨w.heap.size + 1, 0, none⟩ (.int .i64 0)).setCell ⟨w.heap.size + 1, 1, none⟩ (.int .i64 0)) (w.heap.size + 1) 30 #[.int .i64 0, .int .i64 0] := by simpa using (B1.out.set_ 0 (.int .i64 0)).set_ 1 (.int .i64 0)
        obtain ⟨v0, v1⟩ := rng_box e0
        have hbf := (HB0.out.setCell (p := ⟨w.heap.size + 1, 0, none⟩) (by simp) (.int .i64 0)).setCell (p := ⟨w.heap.size + 1, 1, none⟩) (by simp) (.int .i64 0)
        clear q0 q1 f0 f1 e0
        generalize (w2.setCell ⟨w.heap.size + 1, 0, none⟩ (.int .i64 0)).setCell ⟨w.heap.size + 1, 1, none⟩ (.int .i64 0) = wf at *
        refine bodyPost_ret (v := .tuple #[.agg #[.int .i64 0, .int .i64 0], .int .i64 2]) (by simp [results, Try.results6, go_sem, v0, v1]) rfl ⟨by rw [hdef.out], hbf⟩
  · rw [if_pos h0] at hdef
    have b1 : Box ((w.alloc (.cells #[.slice AH h.length cH] 27)).alloc (.cells #[.int .i64 0, .int .i64 0] 30)) (w.heap.size + 1) 30 #[.int .i64 0, .int .i64 0] := Box.new _ _ _ (by simp)
    have hB0 : Below w.heap.size w ((w.alloc (.cells #[.slice AH h.length cH] 27)).alloc (.cells #[.int .i64 0, .int .i64 0] 30)) := (by repeat (first | exact Below.refl _ _ | assumption | refine Below.setCell ?_ (by first | (simp; done) | (simp; omega)) _ | refine belowDrewN ?_ _ | refine Below.drew ?_ | refine Below.alloc ?_ (by first | (simp; done) | (simp; omega)) _))
    have B1 := Lib.hid b1
    have HB0 := Lib.hid hB0
    have hz : (checkColumn h l != 0) = true := by simpa using h0
    clear b1 hB0 hvv hS hin hl hlin h0
    generalize checkColumn h l = ch at *
    generalize h.length = nh at *
    generalize l.length = n at *
    go_enter Try.func6, Try.ntmps6
    go_wp2_with fail
    refine (HCOL.out _ HB0.out).mono ?_
    rintro e w1 ⟨rfl, hb1⟩
    replace B1 := Lib.hid (B1.out.under hb1)
    replace HB0 := Lib.hid (HB0.out.trans (hb1.mono HB0.out.size))
    obtain ⟨q0, q1⟩ := rng_box B1.out
    obtain ⟨f0, f1⟩ := rng_free B1.out
    clear hb1
    go_wp2_with fail
    have e0 : Box ((w1.setCell ⟨w.heap.size + 1, 0, none⟩ (.int .i64 0)).setCell ⟨w.heap.size + 1, 1, none⟩ (.int .i64 0)) (w.heap.size + 1) 30 #[.int .i64 0, .int .i64 0] := by simpa using (B1.out.set_ 0 (.int .i64 0)).set_ 1 (.int .i64 0)
    obtain ⟨v0, v1⟩ := rng_box e0
    have hbf := (HB0.out.setCell (p := ⟨w.heap.size + 1, 0, none⟩) (by simp) (.int .i64 0)).setCell (p := ⟨w.heap.size + 1, 1, none⟩) (by simp) (.int .i64 0)
    clear q0 q1 f0 f1 e0
    generalize (w1.setCell ⟨w.heap.size + 1, 0, none⟩ (.int .i64 0)).setCell ⟨w.heap.size + 1, 1, none⟩ (.int .i64 0) = wf at *
    refine bodyPost_ret (v := .tuple #[.agg #[.int .i64 0, .int .i64 0], .int .i64 ch]) (by simp [results, Try.results6, go_sem, v0, v1]) rfl ⟨by rw [hdef.out], hbf⟩

end Go.Proofs.Ytnhnheigdlnokaa
