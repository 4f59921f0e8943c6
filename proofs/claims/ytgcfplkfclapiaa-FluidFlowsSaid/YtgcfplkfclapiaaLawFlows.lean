/- The law FluidFlows, walked. -/
import Derived.Test.YtgcfplkfclapiaaPackFlows
import Derived.Test.YtgcfplkfclapiaaFAwake
import Derived.Deep.RegionHeld3
namespace Go.Proofs.Ytgcfplkfclapiaa
open Go.RowKit Go.Shelf Mpl

/-- what the law FluidFlows keeps in memory: its arguments, and the two losses once they are told -/
structure FlSt (w W : World) (sc mc : Array Value) (vh : Value) : Prop where
  s : Box W w.heap.size 29 sc
  m : Box W (w.heap.size + 1) 47 mc
  h : Box W (w.heap.size + 1 + 1) 25 #[vh]
  low : Below w.heap.size w W
theorem FlSt.under {w W W' : World} {sc mc : Array Value} {vh : Value} (h : FlSt w W sc mc vh) (hb : Below W.heap.size W W') : FlSt w W' sc mc vh := ⟨h.s.under hb, h.m.under hb, h.h.under hb, h.low.trans (hb.mono h.low.size)⟩
theorem rng_cells {W : World} {g : Nat} {a b : Value} (h : Box W g 34 #[a, b]) : W.cell? ⟨g, 0, none⟩ = some a ∧ W.cell? ⟨g, 1, none⟩ = some b := ⟨h.cell 0, h.cell 1⟩

set_option maxHeartbeats 8000000 in
set_option maxRecDepth 100000 in
theorem walk_FluidFlows (s : Seg) (m : Mud) (g flow : Int) (l : List Seg) (v0 : Value) (u : Int) (w : World) (_hs : SegIn s) (_hm : MudNum m) (_hg : inI64 g) (_hf : inI64 flow) (hv : HoleV w w.heap.size v0 l) (hin : SegsIn l) (hlm : l.length ≤ maxLen) (_hu : inI64 u) :
    Calls Try.prog 13 #[segV s, mudV m, .int .i64 g, .int .i64 flow, v0, .int .i64 u] w fun e w' => e = .returned (.bool true) ∧ Below w.heap.size w w' := by
  have HV := Lib.hid hv
  obtain ⟨A, c, rfl, _⟩ := hv
  have H1 := Lib.hid (fun W => fluid_Gradient s m flow W)
  have H2 := Lib.hid (fun W => ref03_Gradient s m flow W)
  have H3 := Lib.hid (fun W (hW : Below w.heap.size w W) => fluid_Loss _ l m flow u W (HV.out.below hW) hin hlm)
  have H4 := Lib.hid (fun W (hW : Below w.heap.size w W) => ref03_Loss _ l m flow u W (HV.out.below hW))
  have H5 := Lib.hid (fun W => fluid_Flows s m g flow W)
  have H6 := Lib.hid (fun W => ref03_Flows s m g flow W)
  have hq := run_eql_rng
  clear hin
  unfold segV mudV at *
  generalize gradient s m flow = gr at *
  generalize lossOf l m flow u = lo at *
  generalize flows s m g flow = fl at *
  generalize l.length = n at *
  obtain ⟨ga, gb⟩ := gr
  obtain ⟨⟨ll, lh⟩, lb⟩ := lo
  dsimp only at H1 H2 H3 H4
  have e0 : (ga == ga) = true := beq_self_eq_true ga
  have e1 : (gb == gb) = true := beq_self_eq_true gb
  have e2 : (ll == ll) = true := beq_self_eq_true ll
  have e3 : (lh == lh) = true := beq_self_eq_true lh
  have e4 : (lb == lb) = true := beq_self_eq_true lb
  have e5 : (fl == fl) = true := beq_self_eq_true fl
  obtain ⟨w0, hw0⟩ : ∃ w0, ((w.alloc (.cells #[.int .i64 s.Long, .int .i64 s.Rise, .int .i64 s.Area, .int .i64 s.Gap] 29)).alloc (.cells #[.int .i64 m.Yield, .int .i64 m.Visc] 47)).alloc (.cells #[.slice A n c] 25) = w0 := ⟨_, rfl⟩
  have S0 := Lib.hid (show FlSt w w0 #[.int .i64 s.Long, .int .i64 s.Rise, .int .i64 s.Area, .int .i64 s.Gap] #[.int .i64 m.Yield, .int .i64 m.Visc] (.slice A n c) from
    ⟨by rw [← hw0]; exact ((Box.new w _ _ rfl).alloc _).alloc _, by rw [← hw0]; exact (Box.new _ _ _ (by simp)).alloc _, by rw [← hw0]; exact Box.new _ _ _ (by simp), by rw [← hw0]; exact (by repeat (first | exact Below.refl _ _ | assumption | refine Below.setCell ?_ (by first | (simp; done) | (simp; omega)) _ | refine belowDrewN ?_ _ | refine Below.drew ?_ | refine Below.alloc ?_ (by first | (simp; done) | (simp; omega)) _))⟩)
  have HW0 := Lib.hid hw0
  clear hw0
  have q0 := hole_box S0.out.h
  by_cases h18 : 18 < n
  · have t1 : decide (18 < n) = true := decide_eq_true h18
    have t2 : decide ((18 : Int) < (n : Int)) = true := decide_eq_true (by omega)
    go_enter Try.func13, Try.ntmps13
    go_upto_region 1 with fail
    rw [HW0.out]
    go_wp2_with fail
    refine (law03_awake _).mono ?_
    rintro e w2 ⟨rfl, hb2⟩
    go_wp2_with fail
    go_ret
    exact ⟨rfl, S0.out.low.trans (hb2.mono S0.out.low.size)⟩
  have t1 : decide (18 < n) = false := decide_eq_false h18
  have t2 : decide ((18 : Int) < (n : Int)) = false := decide_eq_false (by omega)
  obtain ⟨c0, c1, c2, c3⟩ := load_agg4 S0.out.s
  obtain ⟨d0, d1⟩ := mud_box S0.out.m
  go_enter Try.func13, Try.ntmps13
  go_upto_region 1 with fail
  rw [HW0.out]
  go_wp2_with fail
  refine (H1.out _).mono ?_
  rintro e w1 ⟨rfl, hb1⟩
  have S1 := Lib.hid (S0.out.under hb1)
  clear c0 c1 c2 c3 d0 d1 q0 hb1
  obtain ⟨c0, c1, c2, c3⟩ := load_agg4 S1.out.s
  obtain ⟨d0, d1⟩ := mud_box S1.out.m
  go_wp2_with fail
  refine (H2.out _).mono ?_
  rintro e w2 ⟨rfl, hb2⟩
  have S2 := Lib.hid (S1.out.under hb2)
  clear c0 c1 c2 c3 d0 d1 hb2
  have q0 := hole_box S2.out.h
  obtain ⟨d0, d1⟩ := mud_box S2.out.m
  go_wp2_with fail
  refine (H3.out _ S2.out.low).mono ?_
  rintro e w3 ⟨rfl, hb3⟩
  have S3 := Lib.hid (S2.out.under hb3)
  clear d0 d1 q0 hb3
  go_upto_region 6 with fail
  obtain ⟨w4, hw4⟩ : ∃ w4, w3.alloc (.cells #[.int .i64 ll, .int .i64 lh] 34) = w4 := ⟨_, rfl⟩
  have hb4 : Below w3.heap.size w3 w4 := by rw [← hw4]; exact (Below.refl _ _).alloc (Nat.le_refl _) _
  have R4 := Lib.hid (show Box w4 w3.heap.size 34 #[.int .i64 ll, .int .i64 lh] by rw [← hw4]; exact Box.new _ _ _ rfl)
  have S4 := Lib.hid (S3.out.under hb4)
  have HW4 := Lib.hid hw4
  clear hw4 hb4
  have q0 := hole_box S4.out.h
  obtain ⟨d0, d1⟩ := mud_box S4.out.m
  rw [HW4.out]
  go_wp2_with fail
  refine (H4.out _ S4.out.low).mono ?_
  rintro e w5 ⟨rfl, hb5⟩
  have S5 := Lib.hid (S4.out.under hb5)
  have R5 := Lib.hid (R4.out.under hb5)
  clear d0 d1 q0 hb5
  go_upto_region 7 with fail
  obtain ⟨w6, hw6⟩ : ∃ w6, w5.alloc (.cells #[.int .i64 ll, .int .i64 lh] 34) = w6 := ⟨_, rfl⟩
  have hb6 : Below w5.heap.size w5 w6 := by rw [← hw6]; exact (Below.refl _ _).alloc (Nat.le_refl _) _
  have T6 := Lib.hid (show Box w6 w5.heap.size 34 #[.int .i64 ll, .int .i64 lh] by rw [← hw6]; exact Box.new _ _ _ rfl)
  have R6 := Lib.hid (R5.out.under hb6)
  have S6 := Lib.hid (S5.out.under hb6)
  have HW6 := Lib.hid hw6
  clear hw6 hb6
  rw [HW6.out]
  have HSS := Lib.hid (fun (W : World) (h : FlSt w W #[.int .i64 s.Long, .int .i64 s.Rise, .int .i64 s.Area, .int .i64 s.Gap] #[.int .i64 m.Yield, .int .i64 m.Visc] (.slice A n c)) (r : Box W w3.heap.size 34 #[.int .i64 ll, .int .i64 lh]) (t : Box W w5.heap.size 34 #[.int .i64 ll, .int .i64 lh]) =>
    (⟨load_agg4 h.s, mud_box h.m, rng_cells r, rng_cells t⟩ : (W.cell? ⟨w.heap.size, 0, none⟩ = some (.int .i64 s.Long) ∧ W.cell? ⟨w.heap.size, 1, none⟩ = some (.int .i64 s.Rise) ∧ W.cell? ⟨w.heap.size, 2, none⟩ = some (.int .i64 s.Area) ∧ W.cell? ⟨w.heap.size, 3, none⟩ = some (.int .i64 s.Gap)) ∧ (W.cell? ⟨w.heap.size + 1, 0, none⟩ = some (.int .i64 m.Yield) ∧ W.cell? ⟨w.heap.size + 1, 1, none⟩ = some (.int .i64 m.Visc)) ∧ (W.cell? ⟨w3.heap.size, 0, none⟩ = some (.int .i64 ll) ∧ W.cell? ⟨w3.heap.size, 1, none⟩ = some (.int .i64 lh)) ∧ (W.cell? ⟨w5.heap.size, 0, none⟩ = some (.int .i64 ll) ∧ W.cell? ⟨w5.heap.size, 1, none⟩ = some (.int .i64 lh))))
  have S7 : Hid (FlSt w w6.drew #[.int .i64 s.Long, .int .i64 s.Rise, .int .i64 s.Area, .int .i64 s.Gap] #[.int .i64 m.Yield, .int .i64 m.Visc] (.slice A n c)) := S6.out.under (Below.refl _ _).drew
  have R7 : Hid (Box w6.drew w3.heap.size 34 #[.int .i64 ll, .int .i64 lh]) := R6.out.drew
  have T7 : Hid (Box w6.drew w5.heap.size 34 #[.int .i64 ll, .int .i64 lh]) := T6.out.drew
  go_region_held3 (fun w' => (w'.cell? ⟨w.heap.size, 0, none⟩ = some (.int .i64 s.Long) ∧ w'.cell? ⟨w.heap.size, 1, none⟩ = some (.int .i64 s.Rise) ∧ w'.cell? ⟨w.heap.size, 2, none⟩ = some (.int .i64 s.Area) ∧ w'.cell? ⟨w.heap.size, 3, none⟩ = some (.int .i64 s.Gap)) ∧ (w'.cell? ⟨w.heap.size + 1, 0, none⟩ = some (.int .i64 m.Yield) ∧ w'.cell? ⟨w.heap.size + 1, 1, none⟩ = some (.int .i64 m.Visc)) ∧ (w'.cell? ⟨w3.heap.size, 0, none⟩ = some (.int .i64 ll) ∧ w'.cell? ⟨w3.heap.size, 1, none⟩ = some (.int .i64 lh)) ∧ (w'.cell? ⟨w5.heap.size, 0, none⟩ = some (.int .i64 ll) ∧ w'.cell? ⟨w5.heap.size, 1, none⟩ = some (.int .i64 lh)))
    (first | exact HSS.out _ S7.out R7.out T7.out | exact HSS.out _ S8.out R8.out T8.out | exact HSS.out _ S9.out R9.out T9.out | exact HSS.out _ S10.out R10.out T10.out)
    (first
      | (go_at_call 38; (with_reducible refine (H5.out _).mono ?_); rintro e w8 ⟨rfl, hb8⟩; have S8 := Lib.hid (S7.out.under hb8); have R8 := Lib.hid (R7.out.under hb8); have T8 := Lib.hid (T7.out.under hb8); clear hb8)
      | (go_at_call 52; (with_reducible refine (H6.out _).mono ?_); rintro e w9 ⟨rfl, hb9⟩; have S9 := Lib.hid (S8.out.under hb9); have R9 := Lib.hid (R8.out.under hb9); have T9 := Lib.hid (T8.out.under hb9); clear hb9)
      | (go_at_call 22; (with_reducible refine (law03_awake _).mono ?_); rintro e w10 ⟨rfl, hb10⟩; have S10 := Lib.hid (S9.out.under hb10); have R10 := Lib.hid (R9.out.under hb10); have T10 := Lib.hid (T9.out.under hb10); clear hb10)
      | fail)
  go_wp2_with fail
  go_ret
  exact ⟨rfl, S10.out.low⟩

end Go.Proofs.Ytgcfplkfclapiaa
