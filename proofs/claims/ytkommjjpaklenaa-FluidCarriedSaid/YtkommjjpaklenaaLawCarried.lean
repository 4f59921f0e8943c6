/- The law FluidCarried, walked. -/
import Derived.Test.YtkommjjpaklenaaFAnnulus
import Derived.Test.YtkommjjpaklenaaFSmall
import Derived.Test.YtkommjjpaklenaaFAwake
import Derived.Test.YtkommjjpaklenaaFOpen
namespace Go.Proofs.Ytkommjjpaklenaa
open Go.RowKit Go.Shelf Mpl

set_option maxHeartbeats 8000000 in
set_option maxRecDepth 100000 in
theorem walk_FluidCarried (l : List Int) (A : Option Addr) (c : Nat) (feed0 flow0 slip0 more0 weight0 rock0 : Int) (w : World) (hl : Ints w w.heap.size A l) (hlin : IntsIn l) (hc : l.length ≤ c) (hm : c ≤ maxLen)
    (h1 : inI64 feed0) (h2 : inI64 flow0) (h3 : inI64 slip0) (h4 : inI64 more0) (h5 : inI64 weight0) (h6 : inI64 rock0) :
    Calls Try.prog 9 #[.slice A l.length c, .int .i64 feed0, .int .i64 flow0, .int .i64 slip0, .int .i64 more0, .int .i64 weight0, .int .i64 rock0] w fun e w' => e = .returned (.bool true) ∧ Below w.heap.size w w' := by
  have HAN := Lib.hid (kit_Annulus l A c w hl hlin (by omega))
  have K1 := Lib.hid (fun w => kit_Mod64 feed0 10000 w h1 (by omega) (by omega))
  have K2 := Lib.hid (fun w => kit_Mod64 flow0 500000 w h2 (by omega) (by omega))
  have K3 := Lib.hid (fun w => kit_Mod64 slip0 300 w h3 (by omega) (by omega))
  have K4 := Lib.hid (fun w => kit_Mod64 more0 500000 w h4 (by omega) (by omega))
  have K5 := Lib.hid (fun w => kit_Mod64 weight0 30000 w h5 (by omega) (by omega))
  have K6 := Lib.hid (fun w => kit_Mod64 rock0 10001 w h6 (by omega) (by omega))
  have r1 : 0 ≤ feed0 % 10000 ∧ feed0 % 10000 ≤ 9999 := by omega
  have r2 : 0 ≤ flow0 % 500000 ∧ flow0 % 500000 ≤ 499999 := by omega
  have r3 : 0 ≤ slip0 % 300 ∧ slip0 % 300 ≤ 299 := by omega
  have r4 : 0 ≤ more0 % 500000 ∧ more0 % 500000 ≤ 499999 := by omega
  have r5 : 0 ≤ weight0 % 30000 ∧ weight0 % 30000 ≤ 29999 := by omega
  have r6 : 0 ≤ rock0 % 10001 ∧ rock0 % 10001 ≤ 10000 := by omega
  clear hl hlin h1 h2 h3 h4 h5 h6
  generalize l.length = nl at *
  generalize feed0 % 10000 = feed at *
  generalize flow0 % 500000 = flow at *
  generalize slip0 % 300 = slip at *
  generalize more0 % 500000 = more at *
  generalize weight0 % 30000 = weight at *
  generalize rock0 % 10001 = rk at *
  go_enter Try.func9, Try.ntmps9
  go_wp2_with fail
  refine HAN.out.mono ?_
  rintro e w1 ⟨⟨A', c', h, rfl, hown, hann⟩, hb1⟩
  obtain ⟨A2, c2, hv2, hcc, hsegs⟩ := Segs.own hown
  injection hv2 with hA _ _
  rw [← hA] at hsegs
  obtain ⟨b, off, rfl, hb, hc0⟩ := hsegs hann.pos
  obtain ⟨d0, d1, d2, d3⟩ := hc0 0 hann.pos
  have hmade := hann.at hann.pos
  have hn0 := hann.pos
  have hbl := hb1.size
  simp only [Nat.zero_mul, Nat.add_zero] at d0 d1 d2 d3
  clear hc0 hown hann hA hcc
  generalize sg h 0 = s at *
  generalize h.length = hn at *
  have hgs := hmade.good
  have hCR : Carry s feed flow slip more weight (weight + rk) := by
    obtain ⟨a1, a2, a3, a4, a5, a6, a7, a8⟩ := hmade
    refine ⟨hgs, ?_, ?_, ?_, ?_, ?_, ?_, ?_, ?_, ?_, ?_, ?_, ?_, ?_⟩ <;> omega
  have HL := Lib.hid (carried_laws hCR)
  have HB1 := Lib.hid hb1
  have hf : (Instr.field 25 (.agg #[.slice (some ⟨b, off, none⟩) hn c2]) 0).run Try.prog w1 = .ok (.slice (some ⟨b, off, none⟩) hn c2) w1 := by kernel_rfl
  have hbx : Box (w1.alloc (.cells #[.int .i64 s.Long, .int .i64 s.Rise, .int .i64 s.Area, .int .i64 s.Gap] 29)) w1.heap.size 29 #[.int .i64 s.Long, .int .i64 s.Rise, .int .i64 s.Area, .int .i64 s.Gap] := Box.new _ _ _ rfl
  have BX := Lib.hid hbx
  have BW := Lib.hid (hb1.alloc hb1.size (.cells #[.int .i64 s.Long, .int .i64 s.Rise, .int .i64 s.Area, .int .i64 s.Gap] 29))
  have HM := Lib.hid (fun q w => fluid_Mixed weight (weight + rk) q w)
  have HLA := Lib.hid (fun q w => fluid_Load s feed q slip w)
  have ha1 := hmade.a1
  have ha0 := hmade.a0
  have m1 : 0 ≤ slip * s.Area ∧ slip * s.Area ≤ 299 * 1500 := ⟨Int.mul_nonneg (by omega) (by omega), Int.mul_le_mul (by omega) ha1 (by omega) (by omega)⟩
  obtain ⟨m10, m11⟩ := m1
  obtain ⟨c1, c2', c3, c4⟩ := HL.out
  have mx := mixed_mid (w := weight) (r := weight + rk) (l := (Mpl.load s feed flow slip).1) (by omega) (by omega) (by omega) c3 c4
  unfold segV at HLA
  have L1 := Lib.hid (fun w => HLA.out flow w)
  have L2 := Lib.hid (fun w => HLA.out (flow + more) w)
  have M1 := Lib.hid (fun w => HM.out (Mpl.load s feed flow slip).1 w)
  have M2 := Lib.hid (fun w => HM.out 0 w)
  have M3 := Lib.hid (fun w => HM.out 1000 w)
  have hw1 : IntKind.i64.wrap (weight + rk) = weight + rk := IntWalk.i64_in _ (by omega)
  have hw2 : IntKind.i64.wrap (flow + more) = flow + more := IntWalk.i64_in _ (by omega)
  have hw3 : IntKind.i64.wrap (slip * s.Area) = slip * s.Area := IntWalk.i64_in _ (by omega)
  obtain ⟨mx1, mx2, mx3, mx4⟩ := mx
  rw [mx3] at M2
  rw [mx4] at M3
  have e1 : (weight == weight) = true := beq_self_eq_true _
  have e2 : (weight + rk == weight + rk) = true := beq_self_eq_true _
  have hiff : (Mpl.load s feed flow slip).2 = decide (slip * s.Area < flow) := by rw [Bool.eq_iff_iff, c1]; simp
  clear hb1 hmade HL HLA HM mx3 mx4 c1 hgs hCR ha0 ha1
  generalize (Mpl.load s feed flow slip).1 = a at *
  generalize (Mpl.load s feed (flow + more) slip).1 = a2 at *
  generalize (Mpl.load s feed flow slip).2 = is at *
  generalize (Mpl.load s feed (flow + more) slip).2 = are at *
  generalize Mpl.mixed weight (weight + rk) a = ww at *
  have t1 : decide (weight ≤ ww) = true := decide_eq_true mx1
  have t2 : decide (ww ≤ weight + rk) = true := decide_eq_true mx2
  go_wp2_with (go_at_call 20; (first | (with_reducible refine (K1.out _).mono ?_) | (with_reducible refine (K2.out _).mono ?_) | (with_reducible refine (K3.out _).mono ?_) | (with_reducible refine (K4.out _).mono ?_) | (with_reducible refine (K5.out _).mono ?_) | (with_reducible refine (K6.out _).mono ?_)); rintro e w' ⟨rfl, rfl⟩)
  refine (L1.out _).mono ?_
  rintro e w2 ⟨rfl, hb2⟩
  have X2 := Lib.hid (BX.out.under hb2)
  have W2 := Lib.hid (BW.out.trans (hb2.mono BW.out.size))
  obtain ⟨q0, q1, q2, q3⟩ := load_agg4 X2.out
  clear hb2
  go_wp2_with fail
  refine (L2.out _).mono ?_
  rintro e w3 ⟨rfl, hb3⟩
  have W3 := Lib.hid (W2.out.trans (hb3.mono W2.out.size))
  have X3 := Lib.hid (X2.out.under hb3)
  clear hb3 q0 q1 q2 q3
  obtain ⟨q0, q1, q2, q3⟩ := load_agg4 X3.out
  cases is
  · have hn : decide (slip * s.Area < flow) = false := hiff.symm
    clear hiff c2'
    go_wp2_with (go_at_call 39; (first | (with_reducible refine (M1.out _).mono ?_) | (with_reducible refine (M2.out _).mono ?_) | (with_reducible refine (M3.out _).mono ?_)); rintro e w' ⟨rfl, rfl⟩)
    refine (law03_awake _).mono ?_
    rintro e w4 ⟨rfl, hb4⟩
    go_wp2_with fail
    go_ret
    exact ⟨rfl, W3.out.trans (hb4.mono W3.out.size)⟩
  · have hn : decide (slip * s.Area < flow) = true := hiff.symm
    obtain ⟨rfl, x2⟩ := c2' rfl
    have t3 : decide (a < a2) = false := decide_eq_false (by omega)
    have t4 : decide (a < 0) = false := decide_eq_false (by omega)
    have t5 : decide (1000 < a) = false := decide_eq_false (by omega)
    clear hiff c2' x2
    go_wp2_with (go_at_call 39; (first | (with_reducible refine (M1.out _).mono ?_) | (with_reducible refine (M2.out _).mono ?_) | (with_reducible refine (M3.out _).mono ?_)); rintro e w' ⟨rfl, rfl⟩)
    refine (law03_awake _).mono ?_
    rintro e w4 ⟨rfl, hb4⟩
    go_wp2_with fail
    go_ret
    exact ⟨rfl, W3.out.trans (hb4.mono W3.out.size)⟩

end Go.Proofs.Ytkommjjpaklenaa
