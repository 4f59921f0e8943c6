/- The law FluidCuttings, walked. -/
import Derived.Test.YtkommjjpaklenaaFRefSmall
import Derived.Test.YtkommjjpaklenaaFAwake
import Derived.Test.YtkommjjpaklenaaFOpen
namespace Go.Proofs.Ytkommjjpaklenaa
open Go.RowKit Go.Shelf Mpl

set_option maxHeartbeats 4000000 in
set_option maxRecDepth 100000 in
theorem walk_FluidCuttings (s : Seg) (feed flow slip weight rock ld : Int) (w : World) (_hin : SegIn s) (_h1 : inI64 feed) (_h2 : inI64 flow) (_h3 : inI64 slip) (_h4 : inI64 weight) (_h5 : inI64 rock) (_h6 : inI64 ld) :
    Calls Try.prog 8 #[segV s, .int .i64 feed, .int .i64 flow, .int .i64 slip, .int .i64 weight, .int .i64 rock, .int .i64 ld] w fun e w' => e = .returned (.bool true) ∧ Below w.heap.size w w' := by
  have HA := Lib.hid (fun w => fluid_Load s feed flow slip w)
  have HR := Lib.hid (fun w => ref03_Load s feed flow slip w)
  have HM := Lib.hid (fun w => fluid_Mixed weight rock ld w)
  have HN := Lib.hid (fun w => ref03_Mixed weight rock ld w)
  have b0 : Box (w.alloc (.cells #[.int .i64 s.Long, .int .i64 s.Rise, .int .i64 s.Area, .int .i64 s.Gap] 29)) w.heap.size 29 #[.int .i64 s.Long, .int .i64 s.Rise, .int .i64 s.Area, .int .i64 s.Gap] := Box.new _ _ _ rfl
  have hw0 : Below w.heap.size w (w.alloc (.cells #[.int .i64 s.Long, .int .i64 s.Rise, .int .i64 s.Area, .int .i64 s.Gap] 29)) := (by repeat (first | exact Below.refl _ _ | assumption | refine Below.setCell ?_ (by first | (simp; done) | (simp; omega)) _ | refine belowDrewN ?_ _ | refine Below.drew ?_ | refine Below.alloc ?_ (by first | (simp; done) | (simp; omega)) _))
  have HB := Lib.hid b0
  have HW := Lib.hid hw0
  clear b0 hw0
  unfold segV at *
  generalize (Mpl.load s feed flow slip).1 = a at *
  generalize (Mpl.load s feed flow slip).2 = b at *
  generalize Mpl.mixed weight rock ld = m at *
  have e0 : (a == a) = true := beq_self_eq_true a
  have e1 : (b == b) = true := beq_self_eq_true b
  have e2 : (m == m) = true := beq_self_eq_true m
  go_enter Try.func8, Try.ntmps8
  go_wp2_with fail
  refine (HA.out _).mono ?_
  rintro e w1 ⟨rfl, hb1⟩
  have X1 := Lib.hid (HB.out.under hb1)
  have W1 := Lib.hid (HW.out.trans (hb1.mono HW.out.size))
  obtain ⟨q0, q1, q2, q3⟩ := load_agg4 X1.out
  clear hb1
  go_wp2_with fail
  refine (HR.out _).mono ?_
  rintro e w2 ⟨rfl, hb2⟩
  have W2 := Lib.hid (W1.out.trans (hb2.mono W1.out.size))
  clear hb2 q0 q1 q2 q3
  go_wp2_with (first | (go_at_call 39; refine (HM.out _).mono ?_; rintro e w' ⟨rfl, rfl⟩) | (go_at_call 40; refine (HN.out _).mono ?_; rintro e w' ⟨rfl, rfl⟩))
  refine (law03_awake _).mono ?_
  rintro e w3 ⟨rfl, hb3⟩
  go_wp2_with fail
  go_ret
  exact ⟨rfl, W2.out.trans (hb3.mono W2.out.size)⟩

end Go.Proofs.Ytkommjjpaklenaa
