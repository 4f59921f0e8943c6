/- The law CasingLoads, walked. -/
import Derived.Test.YtannipfohicpmaaRefExcess
import Derived.Test.YtannipfohicpmaaOpen
namespace Go.Proofs.Ytannipfohicpmaa
open Go.RowKit Go.Shelf Mpl

set_option maxHeartbeats 4000000 in
set_option maxRecDepth 100000 in
theorem walk_CasingLoads (l : Stress) (v0 : Value) (lo hi q factor : Int) (w : World) (hv : StressV w w.heap.size v0 l) (_hin : StressIn l) (_i1 : inI64 lo) (_i2 : inI64 hi) (_i3 : inI64 q) (_i4 : inI64 factor) :
    Calls Try.prog 3 #[v0, .int .i64 lo, .int .i64 hi, .int .i64 q, .int .i64 factor] w fun e w' => e = .returned (.bool true) ∧ Below w.heap.size w w' := by
  have HV := Lib.hid hv
  have HSH := Lib.hid (fun W (hW : Below w.heap.size w W) => law05_short l _ W (hv.below hW))
  have HI := Lib.hid (fun W (hW : Below w.heap.size w W) => casing_Inside l lo hi _ W (hv.below hW))
  have HO := Lib.hid (fun W (hW : Below w.heap.size w W) => casing_Outside l lo hi _ W (hv.below hW))
  have HI2 := Lib.hid (fun W (hW : Below w.heap.size w W) => ref05_Inside l lo hi _ W (hv.below hW))
  have HO2 := Lib.hid (fun W (hW : Below w.heap.size w W) => ref05_Outside l lo hi _ W (hv.below hW))
  have HN := Lib.hid (casing_Needed q factor)
  have HN2 := Lib.hid (ref05_Needed q factor)
  obtain ⟨AI, cI, AO, cO, rfl, hI, hO⟩ := hv
  clear hI hO
  generalize (decide (l.In.length ≤ 26) && decide (l.Out.length ≤ 26)) = sh at *
  generalize inside l lo hi = x at *
  generalize outside l lo hi = y at *
  generalize needed q factor = z at *
  generalize l.In.length = n0 at *
  generalize l.Out.length = n1 at *
  have g1 : (x == x) = true := beq_self_eq_true x
  have g2 : (y == y) = true := beq_self_eq_true y
  have g3 : (z == z) = true := beq_self_eq_true z
  have B0 := Lib.hid (Box.new w 26 #[.slice AI n0 cI, .slice AO n1 cO] rfl)
  have hB := (Below.refl w.heap.size w).alloc (Nat.le_refl _) (.cells #[.slice AI n0 cI, .slice AO n1 cO] 26)
  have HB := Lib.hid hB
  clear hB
  cases sh
  · go_enter Try.func3, Try.ntmps3
    go_wp2_with fail
    refine (HSH.out _ HB.out).mono ?_
    rintro e w1 ⟨rfl, hb1⟩
    have hB1 := HB.out.trans (hb1.mono HB.out.size)
    go_wp2_with fail
    refine (law05_awake _).mono ?_
    rintro e w2 ⟨rfl, hb2⟩
    go_wp2_with fail
    go_ret
    exact ⟨rfl, hB1.trans (hb2.mono hB1.size)⟩
  · go_enter Try.func3, Try.ntmps3
    go_wp2_with fail
    refine (HSH.out _ HB.out).mono ?_
    rintro e w1 ⟨rfl, hb1⟩
    have HB1 := Lib.hid (HB.out.trans (hb1.mono HB.out.size))
    have HX := Lib.hid (B0.out.under hb1)
    have f0 := HX.out.cell 0
    have f1 := HX.out.cell 1
    simp only [List.getElem?_toArray, List.getElem?_cons_zero, List.getElem?_cons_succ] at f0 f1
    clear hb1
    go_wp2_with fail
    go_region_held3 (fun w' => w'.cell? ⟨w.heap.size, 0, none⟩ = some (.slice AI n0 cI) ∧ w'.cell? ⟨w.heap.size, 1, none⟩ = some (.slice AO n1 cO)) (first | exact ⟨f0, f1⟩ | exact ⟨p0, p1⟩ | exact ⟨q0, q1⟩ | exact ⟨r0, r1⟩ | exact ⟨s0, s1⟩ | exact ⟨t0, t1⟩)
      (first
        | (go_at_call 15; refine (HI.out _ HB1.out.drew).mono ?_; rintro e w2 ⟨rfl, hb2⟩; have X2 := Lib.hid (HX.out.drew.under hb2); have B2 := Lib.hid (HB1.out.drew.trans (hb2.mono HB1.out.drew.size)); have p0 := X2.out.cell 0; have p1 := X2.out.cell 1; simp only [List.getElem?_toArray, List.getElem?_cons_zero, List.getElem?_cons_succ] at p0 p1)
        | (go_at_call 16; refine (HI2.out _ B2.out).mono ?_; rintro e w3 ⟨rfl, hb3⟩; have X3 := Lib.hid (X2.out.under hb3); have B3 := Lib.hid (B2.out.trans (hb3.mono B2.out.size)); have q0 := X3.out.cell 0; have q1 := X3.out.cell 1; simp only [List.getElem?_toArray, List.getElem?_cons_zero, List.getElem?_cons_succ] at q0 q1)
        | (go_at_call 17; refine (HO.out _ B3.out).mono ?_; rintro e w4 ⟨rfl, hb4⟩; have X4 := Lib.hid (X3.out.under hb4); have B4 := Lib.hid (B3.out.trans (hb4.mono B3.out.size)); have r0 := X4.out.cell 0; have r1 := X4.out.cell 1; simp only [List.getElem?_toArray, List.getElem?_cons_zero, List.getElem?_cons_succ] at r0 r1)
        | (go_at_call 18; refine (HO2.out _ B4.out).mono ?_; rintro e w5 ⟨rfl, hb5⟩; have X5 := Lib.hid (X4.out.under hb5); have B5 := Lib.hid (B4.out.trans (hb5.mono B4.out.size)); have s0 := X5.out.cell 0; have s1 := X5.out.cell 1; simp only [List.getElem?_toArray, List.getElem?_cons_zero, List.getElem?_cons_succ] at s0 s1)
        | (go_at_call 19; refine (HN.out _).mono ?_; rintro e w' ⟨rfl, rfl⟩)
        | (go_at_call 20; refine (HN2.out _).mono ?_; rintro e w' ⟨rfl, rfl⟩)
        | (go_at_call 14; refine (law05_awake _).mono ?_; rintro e w6 ⟨rfl, hb6⟩; have X6 := Lib.hid (X5.out.under hb6); have B6 := Lib.hid (B5.out.trans (hb6.mono B5.out.size)); have t0 := X6.out.cell 0; have t1 := X6.out.cell 1; simp only [List.getElem?_toArray, List.getElem?_cons_zero, List.getElem?_cons_succ] at t0 t1))
    go_wp2_with fail
    go_ret
    exact ⟨rfl, B6.out⟩

end Go.Proofs.Ytannipfohicpmaa
