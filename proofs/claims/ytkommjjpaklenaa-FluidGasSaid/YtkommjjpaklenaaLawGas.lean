/- The law FluidGas, walked. -/
import Derived.Test.YtkommjjpaklenaaFRefGas
import Derived.Test.YtkommjjpaklenaaFAwake
import Derived.Test.YtkommjjpaklenaaFOpen
import Derived.Deep.RegionHeld3
namespace Go.Proofs.Ytkommjjpaklenaa
open Go.RowKit Go.Shelf Mpl

set_option maxHeartbeats 8000000 in
set_option maxRecDepth 100000 in
theorem walk_FluidGas (g : Gas) (p : Int) (w : World) (_hin : GasNum g) (_hp : inI64 p) :
    Calls Try.prog 10 #[gasV g, .int .i64 p] w fun e w' => e = .returned (.bool true) ∧ Below w.heap.size w w' := by
  have HA := Lib.hid (fun w => fluid_Bubble g w)
  have HR := Lib.hid (fun w => ref03_Bubble g w)
  have HF := Lib.hid (fun w => fluid_Free g p w)
  have HG := Lib.hid (fun w => ref03_Free g p w)
  have HS := Lib.hid (fun w => fluid_Space g p w)
  have HT := Lib.hid (fun w => ref03_Space g p w)
  have hq := run_eql_rng
  have b0 := gas_box g w
  have hw0 : Below w.heap.size w (w.alloc (.cells #[.int .i64 g.K, .int .i64 g.Power] 69)) := (by repeat (first | exact Below.refl _ _ | assumption | refine Below.setCell ?_ (by first | (simp; done) | (simp; omega)) _ | refine belowDrewN ?_ _ | refine Below.drew ?_ | refine Below.alloc ?_ (by first | (simp; done) | (simp; omega)) _))
  have HB := Lib.hid b0
  have HW := Lib.hid hw0
  clear b0 hw0
  unfold gasV at *
  generalize (bubble g).1 = a at *
  generalize (bubble g).2 = b at *
  generalize free g p = f at *
  generalize (space g p).Lo = lo at *
  generalize (space g p).Hi = hi at *
  have e0 : (a == a) = true := beq_self_eq_true a
  have e1 : (b == b) = true := beq_self_eq_true b
  have e2 : (f == f) = true := beq_self_eq_true f
  have e3 : (lo == lo) = true := beq_self_eq_true lo
  have e4 : (hi == hi) = true := beq_self_eq_true hi
  go_enter Try.func10, Try.ntmps10
  go_wp2_with fail
  refine (HA.out _).mono ?_
  rintro e w1 ⟨rfl, hb1⟩
  have X1 := Lib.hid (HB.out.under hb1)
  have W1 := Lib.hid (HW.out.trans (hb1.mono HW.out.size))
  obtain ⟨q0, q1⟩ := gas_load X1.out
  clear hb1
  go_wp2_with fail
  refine (HR.out _).mono ?_
  rintro e w2 ⟨rfl, hb2⟩
  have X2 := Lib.hid (X1.out.under hb2)
  have W2 := Lib.hid (W1.out.trans (hb2.mono W1.out.size))
  clear hb2 q0 q1
  obtain ⟨q0, q1⟩ := gas_load X2.out
  go_upto_region 3 with fail
  have D2 := Lib.hid X2.out.drew
  have Y2 := Lib.hid W2.out.drew
  go_region_held3 (fun w' => w'.cell? ⟨w.heap.size, 0, none⟩ = some (.int .i64 g.K) ∧ w'.cell? ⟨w.heap.size, 1, none⟩ = some (.int .i64 g.Power))
    (first | exact gas_load D2.out | exact gas_load X3.out | exact gas_load X4.out | exact gas_load X5.out | exact gas_load X6.out | exact gas_load X7.out)
    (first
      | (go_at_call 43; (with_reducible refine (HF.out _).mono ?_); rintro e w3 ⟨rfl, hb3⟩; have X3 := Lib.hid (D2.out.under hb3); have Y3 := Lib.hid (Y2.out.trans (hb3.mono Y2.out.size)); clear hb3)
      | (go_at_call 44; (with_reducible refine (HG.out _).mono ?_); rintro e w4 ⟨rfl, hb4⟩; have X4 := Lib.hid (X3.out.under hb4); have Y4 := Lib.hid (Y3.out.trans (hb4.mono Y3.out.size)); clear hb4)
      | (go_at_call 45; (with_reducible refine (HS.out _).mono ?_); rintro e w5 ⟨rfl, hb5⟩; have X5 := Lib.hid (X4.out.under hb5); have Y5 := Lib.hid (Y4.out.trans (hb5.mono Y4.out.size)); clear hb5)
      | (go_at_call 46; (with_reducible refine (HT.out _).mono ?_); rintro e w6 ⟨rfl, hb6⟩; have X6 := Lib.hid (X5.out.under hb6); have Y6 := Lib.hid (Y5.out.trans (hb6.mono Y5.out.size)); clear hb6)
      | (go_at_call 22; (with_reducible refine (law03_awake _).mono ?_); rintro e w7 ⟨rfl, hb7⟩; have X7 := Lib.hid (X6.out.under hb7); have Y7 := Lib.hid (Y6.out.trans (hb7.mono Y6.out.size)); clear hb7)
      | fail)
  go_wp2_with fail
  go_ret
  exact ⟨rfl, Y7.out⟩

end Go.Proofs.Ytkommjjpaklenaa
