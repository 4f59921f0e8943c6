/- The law FluidHoles, walked. -/
import Derived.Test.YtkommjjpaklenaaFRefHole3
import Derived.Test.YtkommjjpaklenaaSameLine
import Derived.Test.YtkommjjpaklenaaFAwake
import Derived.Test.YtkommjjpaklenaaFOpen
import Derived.Deep.RegionHeld3
namespace Go.Proofs.Ytkommjjpaklenaa
open Go.RowKit Go.Shelf Mpl

theorem height_short (l : List Seg) : (heightOf l).length ≤ 1000 := by
  unfold heightOf
  split
  · rename_i h
    rw [hk_len]
    have := ((checkHole_iff l).1 h).few
    omega
  · simp

set_option maxHeartbeats 8000000 in
set_option maxRecDepth 100000 in
theorem walk_FluidHoles (l : List Seg) (v0 : Value) (u : Int) (w : World) (hv : HoleV w w.heap.size v0 l) (hin : SegsIn l) (hm : l.length ≤ maxLen) (_hu : inI64 u) :
    Calls Try.prog 5 #[v0, .int .i64 u] w fun e w' => e = .returned (.bool true) ∧ Below w.heap.size w w' := by
  have HV := Lib.hid hv
  obtain ⟨A, c, rfl, _⟩ := hv
  have H1 := Lib.hid (fun W (hW : Below w.heap.size w W) => fluid_CheckHole _ l W (HV.out.below hW) hin hm)
  have H2 := Lib.hid (fun W (hW : Below w.heap.size w W) => ref03_CheckHole _ l W (HV.out.below hW))
  have H3 := Lib.hid (fun W (hW : Below w.heap.size w W) => fluid_Volume _ l W (HV.out.below hW) hin hm)
  have H4 := Lib.hid (fun W (hW : Below w.heap.size w W) => ref03_Volume _ l W (HV.out.below hW))
  have H5 := Lib.hid (fun W (hW : Below w.heap.size w W) => fluid_Height _ l W (HV.out.below hW) hin hm)
  have H6 := Lib.hid (fun W (hW : Below w.heap.size w W) => ref03_Height _ l W (HV.out.below hW))
  have hsh := height_short l
  have H7 := Lib.hid (fun v v' W hx hy => ref02_SameLine (heightOf l) (heightOf l) v v' W hx hy hsh hsh)
  have H8 := Lib.hid (fun W (hW : Below w.heap.size w W) => fluid_Where _ l u W (HV.out.below hW) hin hm)
  have H9 := Lib.hid (fun W (hW : Below w.heap.size w W) => ref03_Where _ l u W (HV.out.below hW))
  rw [show decide (heightOf l = heightOf l) = true by simp] at H7
  clear hin hsh
  generalize checkHole l = r at *
  generalize volumeOf l = vo at *
  generalize whereOf l u = wh at *
  generalize heightOf l = hk at *
  generalize l.length = n at *
  have e1 : (r == r) = true := beq_self_eq_true r
  have e2 : (vo == vo) = true := beq_self_eq_true vo
  have e3 : (wh == wh) = true := beq_self_eq_true wh
  have HB := Lib.hid ((Below.refl w.heap.size w).alloc (Nat.le_refl _) (.cells #[.slice A n c] 25))
  have B0 := Lib.hid (Box.new w 25 #[.slice A n c] rfl)
  by_cases h18 : 18 < n
  · have t1 : decide (18 < n) = true := decide_eq_true h18
    have t2 : decide ((18 : Int) < (n : Int)) = true := decide_eq_true (by omega)
    go_enter Try.func5, Try.ntmps5
    go_wp2_with fail
    refine (law03_awake _).mono ?_
    rintro e w2 ⟨rfl, hb2⟩
    go_wp2_with fail
    go_ret
    exact ⟨rfl, HB.out.trans (hb2.mono HB.out.size)⟩
  have t1 : decide (18 < n) = false := decide_eq_false h18
  have t2 : decide ((18 : Int) < (n : Int)) = false := decide_eq_false (by omega)
  go_enter Try.func5, Try.ntmps5
  go_upto_region 3 with fail
  have D0 : Hid (Box (w.alloc (.cells #[.slice A n c] 25)).drew w.heap.size 25 #[.slice A n c]) := B0.out.drew
  have E0 : Hid (Below w.heap.size w (w.alloc (.cells #[.slice A n c] 25)).drew) := HB.out.drew
  go_region_held3 (fun w' => w'.cell? ⟨w.heap.size, 0, none⟩ = some (.slice A n c))
    (first | exact hole_box D0.out | exact hole_box X1.out | exact hole_box X2.out | exact hole_box X3.out | exact hole_box X4.out | exact hole_box X5.out | exact hole_box X6.out | exact hole_box X7.out | exact hole_box X8.out | exact hole_box X9.out | exact hole_box X10.out)
    (first
      | (go_at_call 24; (with_reducible refine (H1.out _ E0.out).mono ?_); rintro e w1 ⟨rfl, hb1⟩; have E1 := Lib.hid (E0.out.trans (hb1.mono E0.out.size)); have X1 := Lib.hid (D0.out.under hb1); clear hb1)
      | (go_at_call 25; (with_reducible refine (H2.out _ E1.out).mono ?_); rintro e w2 ⟨rfl, hb2⟩; have E2 := Lib.hid (E1.out.trans (hb2.mono E1.out.size)); have X2 := Lib.hid (X1.out.under hb2); clear hb2)
      | (go_at_call 26; (with_reducible refine (H3.out _ E2.out).mono ?_); rintro e w3 ⟨rfl, hb3⟩; have E3 := Lib.hid (E2.out.trans (hb3.mono E2.out.size)); have X3 := Lib.hid (X2.out.under hb3); clear hb3)
      | (go_at_call 27; (with_reducible refine (H4.out _ E3.out).mono ?_); rintro e w4 ⟨rfl, hb4⟩; have E4 := Lib.hid (E3.out.trans (hb4.mono E3.out.size)); have X4 := Lib.hid (X3.out.under hb4); clear hb4)
      | (go_at_call 29; (with_reducible refine (H5.out _ E4.out).mono ?_); rintro e w5 ⟨⟨v5, rfl, hl5⟩, hb5⟩; have E5 := Lib.hid (E4.out.trans (hb5.mono E4.out.size)); have X5 := Lib.hid (X4.out.under hb5); have L5 := Lib.hid hl5; clear hb5 hl5)
      | (go_at_call 30; (with_reducible refine (H6.out _ E5.out).mono ?_); rintro e w6 ⟨⟨v6, rfl, hl6⟩, hb6⟩; have E6 := Lib.hid (E5.out.trans (hb6.mono E5.out.size)); have X6 := Lib.hid (X5.out.under hb6); have L6 := Lib.hid hl6; have M5 := Lib.hid (L5.out.up hb6 hb6.size); clear hb6 hl6)
      | (go_at_call 28; (with_reducible refine (H7.out _ _ _ M5.out L6.out).mono ?_); rintro e w7 ⟨rfl, hb7⟩; have E7 := Lib.hid (E6.out.trans (hb7.mono E6.out.size)); have X7 := Lib.hid (X6.out.under hb7); clear hb7)
      | (go_at_call 31; (with_reducible refine (H8.out _ E7.out).mono ?_); rintro e w8 ⟨rfl, hb8⟩; have E8 := Lib.hid (E7.out.trans (hb8.mono E7.out.size)); have X8 := Lib.hid (X7.out.under hb8); clear hb8)
      | (go_at_call 32; (with_reducible refine (H9.out _ E8.out).mono ?_); rintro e w9 ⟨rfl, hb9⟩; have E9 := Lib.hid (E8.out.trans (hb9.mono E8.out.size)); have X9 := Lib.hid (X8.out.under hb9); clear hb9)
      | (go_at_call 22; (with_reducible refine (law03_awake _).mono ?_); rintro e w10 ⟨rfl, hb10⟩; have E10 := Lib.hid (E9.out.trans (hb10.mono E9.out.size)); have X10 := Lib.hid (X9.out.under hb10); clear hb10)
      | fail)
  go_wp2_with fail
  go_ret
  exact ⟨rfl, E10.out⟩

end Go.Proofs.Ytkommjjpaklenaa
