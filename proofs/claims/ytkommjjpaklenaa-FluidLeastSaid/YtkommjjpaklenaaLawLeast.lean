/- The law FluidLeast, walked. -/
import Derived.Test.YtkommjjpaklenaaFGradient
import Derived.Test.YtkommjjpaklenaaFAnnulus
import Derived.Test.YtkommjjpaklenaaFAwake
import Derived.Test.YtkommjjpaklenaaFOpen
import Derived.StillTactics
namespace Go.Proofs.Ytkommjjpaklenaa
open Go.RowKit Go.Shelf Mpl

theorem flows_of {s : Seg} {m : Mud} {g flow : Int} (hs : GoodSeg s) (hl : s.Long ≤ 1048576) (hm : MudIn m flow) (h0 : 0 ≤ g) (h1 : g ≤ 20000) : flows s m g flow = flowsG s m g flow := by
  unfold flows
  rw [(possible_iff s m flow).2 ⟨⟨hs, hl⟩, hm⟩]
  simp [within, h0, h1]

set_option maxHeartbeats 8000000 in
set_option maxRecDepth 100000 in
theorem walk_FluidLeast (l : List Int) (A : Option Addr) (c : Nat) (m0 : Mud) (flow0 more0 : Int) (w : World) (hl : Ints w w.heap.size A l) (hlin : IntsIn l) (hc : l.length ≤ c) (hm : c ≤ maxLen) (hmud : MudNum m0) (h1 : inI64 flow0) (h2 : inI64 more0) :
    Calls Try.prog 7 #[.slice A l.length c, mudV m0, .int .i64 flow0, .int .i64 more0] w fun e w' => e = .returned (.bool true) ∧ Below w.heap.size w w' := by
  obtain ⟨n1, n2⟩ := hmud
  have HAN := Lib.hid (fun W (hW : Below w.heap.size w W) => kit_Annulus l A c W (hl.up hW hW.size) hlin (by omega))
  have K1 := Lib.hid (fun w => quiet_of (kit_Mod64 m0.Yield 20000 w n1 (by omega) (by omega)))
  have K2 := Lib.hid (fun w => quiet_of (kit_Mod64 m0.Visc 5000 w n2 (by omega) (by omega)))
  have K3 := Lib.hid (fun w => kit_Mod64 flow0 200000 w h1 (by omega) (by omega))
  have K4 := Lib.hid (fun w => kit_Mod64 more0 3000 w h2 (by omega) (by omega))
  have r1 : 0 ≤ m0.Yield % 20000 ∧ m0.Yield % 20000 ≤ 19999 := by omega
  have r2 : 0 ≤ m0.Visc % 5000 ∧ m0.Visc % 5000 ≤ 4999 := by omega
  have r3 : 0 ≤ flow0 % 200000 ∧ flow0 % 200000 ≤ 199999 := by omega
  have r4 : 0 ≤ more0 % 3000 ∧ more0 % 3000 ≤ 2999 := by omega
  unfold mudV
  clear hl hlin h1 h2 n1 n2
  generalize l.length = nl at *
  generalize m0.Yield % 20000 = Y at *
  generalize m0.Visc % 5000 = Vi at *
  generalize flow0 % 200000 = flow at *
  generalize more0 % 3000 = more at *
  obtain ⟨r10, r11⟩ := r1
  obtain ⟨r20, r21⟩ := r2
  obtain ⟨r30, r31⟩ := r3
  obtain ⟨r40, r41⟩ := r4
  obtain ⟨w0, hw0⟩ : ∃ w0, w.alloc (.cells #[.int .i64 m0.Yield, .int .i64 m0.Visc] 59) = w0 := ⟨_, rfl⟩
  have BM0 := Lib.hid (show Box w0 w.heap.size 59 #[.int .i64 m0.Yield, .int .i64 m0.Visc] by rw [← hw0]; exact Box.new w _ _ rfl)
  have W0 := Lib.hid (show Below w.heap.size w w0 by rw [← hw0]; exact (by repeat (first | exact Below.refl _ _ | assumption | refine Below.setCell ?_ (by first | (simp; done) | (simp; omega)) _ | refine belowDrewN ?_ _ | refine Below.drew ?_ | refine Below.alloc ?_ (by first | (simp; done) | (simp; omega)) _)))
  have HW0 := Lib.hid hw0
  clear hw0
  go_enter Try.func7, Try.ntmps7
  go_wp2_with fail
  rw [HW0.out]
  refine (HAN.out _ W0.out).mono ?_
  rintro e w1 ⟨⟨A', c', h, rfl, hown, hann⟩, hb1⟩
  obtain ⟨A2, c2, hv2, hcc, hsegs⟩ := Segs.own hown
  injection hv2 with hA _ _
  rw [← hA] at hsegs
  obtain ⟨b, off, rfl, hb, hc0⟩ := hsegs hann.pos
  obtain ⟨d0, d1, d2, d3⟩ := hc0 0 hann.pos
  have hmade := hann.at hann.pos
  have hn0 := hann.pos
  have hbl := hb1.size
  have hlt01 : w.heap.size < w1.heap.size := (BM0.out.under hb1).lt
  simp only [Nat.zero_mul, Nat.add_zero] at d0 d1 d2 d3
  clear hc0 hown hann hA hcc HAN
  generalize sg h 0 = s at *
  generalize h.length = hn at *
  have hf : (Instr.field 25 (.agg #[.slice (some ⟨b, off, none⟩) hn c2]) 0).run Try.prog w1 = .ok (.slice (some ⟨b, off, none⟩) hn c2) w1 := by kernel_rfl
  have GS := Lib.hid hmade.good
  have hlong := hmade.l1
  obtain ⟨g0, g1⟩ := And.intro hmade.g0 hmade.g1
  have W1 := Lib.hid (W0.out.trans (hb1.mono W0.out.size))
  obtain ⟨w2, hw2⟩ : ∃ w2, w1.alloc (.cells #[.int .i64 s.Long, .int .i64 s.Rise, .int .i64 s.Area, .int .i64 s.Gap] 29) = w2 := ⟨_, rfl⟩
  have BS2 := Lib.hid (show Box w2 w1.heap.size 29 #[.int .i64 s.Long, .int .i64 s.Rise, .int .i64 s.Area, .int .i64 s.Gap] by rw [← hw2]; exact Box.new _ _ _ rfl)
  have BM2 := Lib.hid (show Box w2 w.heap.size 59 #[.int .i64 m0.Yield, .int .i64 m0.Visc] by rw [← hw2]; exact (BM0.out.under hb1).alloc _)
  have W2 := Lib.hid (show Below w.heap.size w w2 by rw [← hw2]; exact W1.out.alloc W1.out.size _)
  have HW2 := Lib.hid hw2
  have HLS := Lib.hid (fun hg => least_laws (s := s) (m := ⟨Y, 1 + Vi⟩) (flow := flow) (more := more) ⟨GS.out, by omega, r10, r11, by show 1 ≤ 1 + Vi; omega, by show 1 + Vi ≤ 5000; omega, r30, r31, r40, r41⟩ hg)
  have hmu : MudIn ⟨Y, 1 + Vi⟩ flow := ⟨r10, by show Y ≤ 1000000; omega, by show 1 ≤ 1 + Vi; omega, by show 1 + Vi ≤ 1000000; omega, r30, by omega⟩
  have hsp := gradient_spec GS.out (by omega) hmu
  have HFL := Lib.hid (fun g h0 h1 W => (by have := fluid_Flows s ⟨Y, 1 + Vi⟩ g flow W; rw [flows_of GS.out (by omega) hmu h0 h1] at this; exact this : Calls Try.prog 36 #[segV s, mudV ⟨Y, 1 + Vi⟩, .int .i64 g, .int .i64 flow] W fun e w' => e = .returned (.bool (flowsG s ⟨Y, 1 + Vi⟩ g flow)) ∧ Below W.heap.size W w'))
  have HG1 := Lib.hid (fun W => fluid_Gradient s ⟨Y, 1 + Vi⟩ flow W)
  have HG2 := Lib.hid (fun W => fluid_Gradient s ⟨Y, 1 + Vi⟩ (flow + more) W)
  have HG3 := Lib.hid (fun W => fluid_Gradient s ⟨Y + more, 1 + Vi⟩ flow W)
  have HG4 := Lib.hid (fun W => fluid_Gradient s ⟨Y, 1 + Vi + more⟩ flow W)
  have HG5 := Lib.hid (fun W => fluid_Gradient (wideSeg s more) ⟨Y, 1 + Vi⟩ flow W)
  unfold segV mudV wideSeg at *
  obtain ⟨q0, q1⟩ := mud_box BM2.out
  have f0 := BM2.out.frozen 0
  have f1 := BM2.out.frozen 1
  clear hw2 hmade BM0 hb1 W0 W1 hmu
  go_upto_region 2 with fail
  rw [HW2.out]
  go_cut [] (fun wx => Hid (Box wx w.heap.size 59 #[.int .i64 Y, .int .i64 (1 + Vi)]) ∧ Hid (Box wx w1.heap.size 29 #[.int .i64 s.Long, .int .i64 s.Rise, .int .i64 s.Area, .int .i64 s.Gap]) ∧ Hid (Below w.heap.size w wx))
  case first =>
    refine wp_region_still_tail 8 mixed (by kernel_rfl) ?_
    simp only [List.take_succ_cons, List.take_zero, List.drop_succ_cons, List.drop_zero]
    repeat still_step
    still_call (K1.out _)
    repeat still_step
    still_call (K2.out _)
    repeat still_step
    refine wpStill_nil ?_
    change wpList _ _ _ _ _ w2.drew
    go_wp2_with fail
    go_meet
    have hne : w1.heap.size ≠ w.heap.size := by omega
    refine ⟨?_, ?_, ?_⟩
    · have := ((BM2.out.set_ 0 (.int .i64 Y)).set_ 1 (.int .i64 (1 + Vi))).drew
      simpa [Hid] using this
    · exact ((BS2.out.far hne _).far hne _).drew
    · exact ((W2.out.setCell (p := ⟨w.heap.size, 0, none⟩) (Nat.le_refl _) _).setCell (p := ⟨w.heap.size, 1, none⟩) (Nat.le_refl _) _).drew
  case rest =>
    obtain ⟨XM3, XS3, V3⟩ := hcut
    clear q0 q1 f0 f1 BM2 BS2 W2 HW2 HW0 K1 K2 hf d0 d1 d2 d3
    obtain ⟨c0, c1, c2', c3⟩ := load_agg4 XS3.out
    obtain ⟨q4, q5⟩ := mud_box XM3.out
    obtain ⟨sp1, ⟨sp2, sp3⟩, _⟩ := hsp
    go_wp2_with (go_at_call 20; (first | (with_reducible refine (K3.out _).mono ?_) | (with_reducible refine (K4.out _).mono ?_)); rintro e w' ⟨rfl, rfl⟩)
    clear K3 K4
    refine (HG1.out _).mono ?_
    rintro e w5 ⟨rfl, hb5⟩
    have XS5 := Lib.hid (XS3.out.under hb5)
    have XM5 := Lib.hid (XM3.out.under hb5)
    have V5 := Lib.hid (V3.out.trans (hb5.mono V3.out.size))
    clear hb5 c0 c1 c2' c3 q4 q5 XS3 XM3 V3
    obtain ⟨c0, c1, c2', c3⟩ := load_agg4 XS5.out
    obtain ⟨q4, q5⟩ := mud_box XM5.out
    have F20 := Lib.hid (fun W => HFL.out 20000 (by omega) (by omega) W)
    have FG := Lib.hid (fun W => HFL.out (gradient s ⟨Y, 1 + Vi⟩ flow).1 sp2 sp3 W)
    have FG1 := Lib.hid (fun W (h : 0 < (gradient s ⟨Y, 1 + Vi⟩ flow).1) => HFL.out ((gradient s ⟨Y, 1 + Vi⟩ flow).1 - 1) (by omega) (by omega) W)
    cases his : (gradient s ⟨Y, 1 + Vi⟩ flow).2
    · rw [his] at sp1
      rw [← sp1] at F20
      clear HLS FG FG1 HFL HG1 HG2 HG3 HG4 HG5 sp1
      generalize (gradient s ⟨Y, 1 + Vi⟩ flow).1 = g at *
      go_wp2_with fail
      refine (F20.out _).mono ?_
      rintro e w6 ⟨rfl, hb6⟩
      go_wp2_with fail
      have V6 := Lib.hid (V5.out.trans (hb6.mono V5.out.size))
      refine (law03_awake _).mono ?_
      rintro e w7 ⟨rfl, hb7⟩
      go_wp2_with fail
      go_ret
      exact ⟨rfl, V6.out.trans (hb7.mono V6.out.size)⟩
    · obtain ⟨L1, L2, L3, L4, L5, L6, L7, L8⟩ := HLS.out his
      (try simp only at L3 L5 L6 L7 L8)
      rw [L1] at FG
      rw [L7] at HG5
      obtain ⟨wg, hwg⟩ : ∃ wg, (if s.Gap + more % 50 < 200 then s.Gap + more % 50 else (200 : Int)) = wg := ⟨_, rfl⟩
      have hwg2 : min 200 (s.Gap + more % 50) = wg := by rw [← hwg]; split <;> omega
      rw [hwg2] at HG5 L8
      have mm : 0 ≤ more % 50 ∧ more % 50 < 50 := by omega
      obtain ⟨mm0, mm1⟩ := mm
      clear HLS F20 HFL HG1 sp1 hwg2
      replace L2 := Lib.hid L2
      replace L3 := Lib.hid L3
      generalize (gradient s ⟨Y, 1 + Vi⟩ flow).1 = g at *
      generalize (gradient s ⟨Y, 1 + Vi⟩ (flow + more)).1 = ga at *
      generalize (gradient s ⟨Y, 1 + Vi⟩ (flow + more)).2 = one at *
      generalize (gradient s ⟨Y + more, 1 + Vi⟩ flow).1 = gb at *
      generalize (gradient s ⟨Y + more, 1 + Vi⟩ flow).2 = two at *
      generalize (gradient s ⟨Y, 1 + Vi + more⟩ flow).1 = gc at *
      generalize (gradient s ⟨Y, 1 + Vi + more⟩ flow).2 = three at *
      generalize (gradient ⟨s.Long, s.Rise, s.Area, wg⟩ ⟨Y, 1 + Vi⟩ flow).1 = gd at *
      have y8 : decide (gd ≤ g) = true := decide_eq_true L8
      have L4' := Lib.hid (fun h : one = true => (decide_eq_true (L4 h) : decide (g ≤ ga) = true))
      have L5' := Lib.hid (fun h : two = true => (decide_eq_true (L5 h) : decide (g ≤ gb) = true))
      have L6' := Lib.hid (fun h : three = true => (decide_eq_true (L6 h) : decide (g ≤ gc) = true))
      have pr : 0 ≤ g * s.Gap ∧ g * s.Gap ≤ 20000 * 200 := ⟨Int.mul_nonneg sp2 (by omega), Int.mul_le_mul sp3 g1 (by omega) (by omega)⟩
      obtain ⟨pr0, pr1⟩ := pr
      have hwp : IntKind.i64.wrap (g * s.Gap) = g * s.Gap := IntWalk.i64_in _ (by omega)
      clear L4 L5 L6 L8 GS
      generalize s.Gap = gap at *
      go_upto_region 7 with fail
      go_cut [85] (fun s85 wx => s85 = .bool false ∧ Hid (Box wx w.heap.size 59 #[.int .i64 Y, .int .i64 (1 + Vi)]) ∧ Hid (Box wx w1.heap.size 29 #[.int .i64 s.Long, .int .i64 s.Rise, .int .i64 s.Area, .int .i64 gap]) ∧ Hid (Below w.heap.size w wx))
      case first =>
        by_cases hg : 0 < g
        · have t1 : decide (0 < g) = true := decide_eq_true hg
          have FG1' := Lib.hid (fun W => FG1.out W hg)
          rw [L2.out hg] at FG1'
          by_cases hfl : 0 < flow
          · have t2 : decide (0 < flow) = true := decide_eq_true hfl
            have t3 : decide (g * gap ≤ Y) = false := decide_eq_false (by have := L3.out hfl; omega)
            go_wp2_with fail
            refine (FG.out _).mono ?_
            rintro e w6 ⟨rfl, hb6⟩
            have XS6 := Lib.hid (XS5.out.under hb6)
            have XM6 := Lib.hid (XM5.out.under hb6)
            have V6 := Lib.hid (V5.out.trans (hb6.mono V5.out.size))
            clear hb6 c0 c1 c2' c3 q4 q5 XS5 XM5 V5
            obtain ⟨c0, c1, c2', c3⟩ := load_agg4 XS6.out
            obtain ⟨q4, q5⟩ := mud_box XM6.out
            go_wp2_with fail
            refine (FG1'.out _).mono ?_
            rintro e w7 ⟨rfl, hb7⟩
            have XS7 := Lib.hid (XS6.out.under hb7)
            have XM7 := Lib.hid (XM6.out.under hb7)
            have V7 := Lib.hid (V6.out.trans (hb7.mono V6.out.size))
            clear hb7 c0 c1 c2' c3 q4 q5 XS6 XM6 V6
            obtain ⟨c0, c1, c2', c3⟩ := load_agg4 XS7.out
            obtain ⟨q4, q5⟩ := mud_box XM7.out
            go_wp2_with fail
            go_meet
            exact ⟨rfl, XM7, XS7, V7⟩
          · have t2 : decide (0 < flow) = false := decide_eq_false hfl
            go_wp2_with fail
            refine (FG.out _).mono ?_
            rintro e w6 ⟨rfl, hb6⟩
            have XS6 := Lib.hid (XS5.out.under hb6)
            have XM6 := Lib.hid (XM5.out.under hb6)
            have V6 := Lib.hid (V5.out.trans (hb6.mono V5.out.size))
            clear hb6 c0 c1 c2' c3 q4 q5 XS5 XM5 V5
            obtain ⟨c0, c1, c2', c3⟩ := load_agg4 XS6.out
            obtain ⟨q4, q5⟩ := mud_box XM6.out
            go_wp2_with fail
            refine (FG1'.out _).mono ?_
            rintro e w7 ⟨rfl, hb7⟩
            have XS7 := Lib.hid (XS6.out.under hb7)
            have XM7 := Lib.hid (XM6.out.under hb7)
            have V7 := Lib.hid (V6.out.trans (hb7.mono V6.out.size))
            clear hb7 c0 c1 c2' c3 q4 q5 XS6 XM6 V6
            obtain ⟨c0, c1, c2', c3⟩ := load_agg4 XS7.out
            obtain ⟨q4, q5⟩ := mud_box XM7.out
            go_wp2_with fail
            go_meet
            exact ⟨rfl, XM7, XS7, V7⟩
        · have t1 : decide (0 < g) = false := decide_eq_false hg
          by_cases hfl : 0 < flow
          · have t2 : decide (0 < flow) = true := decide_eq_true hfl
            have t3 : decide (g * gap ≤ Y) = false := decide_eq_false (by have := L3.out hfl; omega)
            go_wp2_with fail
            refine (FG.out _).mono ?_
            rintro e w6 ⟨rfl, hb6⟩
            have XS6 := Lib.hid (XS5.out.under hb6)
            have XM6 := Lib.hid (XM5.out.under hb6)
            have V6 := Lib.hid (V5.out.trans (hb6.mono V5.out.size))
            clear hb6 c0 c1 c2' c3 q4 q5 XS5 XM5 V5
            obtain ⟨c0, c1, c2', c3⟩ := load_agg4 XS6.out
            obtain ⟨q4, q5⟩ := mud_box XM6.out
            go_wp2_with fail
            go_meet
            exact ⟨rfl, XM6, XS6, V6⟩
          · have t2 : decide (0 < flow) = false := decide_eq_false hfl
            go_wp2_with fail
            refine (FG.out _).mono ?_
            rintro e w6 ⟨rfl, hb6⟩
            have XS6 := Lib.hid (XS5.out.under hb6)
            have XM6 := Lib.hid (XM5.out.under hb6)
            have V6 := Lib.hid (V5.out.trans (hb6.mono V5.out.size))
            clear hb6 c0 c1 c2' c3 q4 q5 XS5 XM5 V5
            obtain ⟨c0, c1, c2', c3⟩ := load_agg4 XS6.out
            obtain ⟨q4, q5⟩ := mud_box XM6.out
            go_wp2_with fail
            go_meet
            exact ⟨rfl, XM6, XS6, V6⟩
      case rest =>
        obtain ⟨rfl, XM8, XS8, V8⟩ := hcut
        clear c0 c1 c2' c3 q4 q5 XS5 XM5 V5 FG FG1 L2 L3 hwp pr0 pr1
        obtain ⟨c0, c1, c2', c3⟩ := load_agg4 XS8.out
        obtain ⟨q4, q5⟩ := mud_box XM8.out
        go_wp2_with fail
        refine (HG2.out _).mono ?_
        rintro e w9 ⟨rfl, hb9⟩
        have XS9 := Lib.hid (XS8.out.under hb9)
        have XM9 := Lib.hid (XM8.out.under hb9)
        have V9 := Lib.hid (V8.out.trans (hb9.mono V8.out.size))
        clear hb9 c0 c1 c2' c3 q4 q5 XS8 XM8 V8
        obtain ⟨c0, c1, c2', c3⟩ := load_agg4 XS9.out
        obtain ⟨q4, q5⟩ := mud_box XM9.out
        go_wp2_with fail
        refine (HG3.out _).mono ?_
        rintro e w10 ⟨rfl, hb10⟩
        have XS10 := Lib.hid (XS9.out.under hb10)
        have XM10 := Lib.hid (XM9.out.under hb10)
        have V10 := Lib.hid (V9.out.trans (hb10.mono V9.out.size))
        clear hb10 c0 c1 c2' c3 q4 q5 XS9 XM9 V9
        obtain ⟨c0, c1, c2', c3⟩ := load_agg4 XS10.out
        obtain ⟨q4, q5⟩ := mud_box XM10.out
        go_wp2_with fail
        refine (HG4.out _).mono ?_
        rintro e w11 ⟨rfl, hb11⟩
        have XS11 := Lib.hid (XS10.out.under hb11)
        have XM11 := Lib.hid (XM10.out.under hb11)
        have V11 := Lib.hid (V10.out.trans (hb11.mono V10.out.size))
        clear hb11 c0 c1 c2' c3 q4 q5 XS10 XM10 V10
        obtain ⟨c0, c1, c2', c3⟩ := load_agg4 XS11.out
        obtain ⟨q4, q5⟩ := mud_box XM11.out
        have hx1 := XS11.out.lt
        have hx2 := XM11.out.lt
        go_wp2_with fail
        refine (HG5.out _).mono ?_
        rintro e w12 ⟨rfl, hb12⟩
        have V12 := Lib.hid ((V11.out.alloc V11.out.size (.cells #[.int .i64 s.Long, .int .i64 s.Rise, .int .i64 s.Area, .int .i64 wg] 29)).trans (hb12.mono (V11.out.alloc V11.out.size _).size))
        clear hb12 c0 c1 c2' c3 q4 q5 hwg
        cases one <;> cases two <;> cases three
        all_goals
          (try have y1 := L4'.out rfl)
          (try have y2 := L5'.out rfl)
          (try have y3 := L6'.out rfl)
          clear L4' L5' L6'
          go_wp2_with fail
          refine (law03_awake _).mono ?_
          rintro e w13 ⟨rfl, hb13⟩
          go_wp2_with fail
          go_ret
          exact ⟨rfl, V12.out.trans (hb13.mono V12.out.size)⟩

end Go.Proofs.Ytkommjjpaklenaa
