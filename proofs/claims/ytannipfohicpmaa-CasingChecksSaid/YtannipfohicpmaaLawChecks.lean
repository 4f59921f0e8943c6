/- The law CasingChecks, walked. -/
import Derived.Test.YtannipfohicpmaaCopy
import Derived.Test.YtannipfohicpmaaChecksSt
import Derived.Test.YtannipfohicpmaaSlices
import Derived.Test.YtannipfohicpmaaPackRef
import Derived.Test.YtannipfohicpmaaCheck2
import Derived.Test.YtannipfohicpmaaOpen
import Derived.Test.YtannipfohicpmaaAwake
namespace Go.Proofs.Ytannipfohicpmaa
open Go.RowKit Go.Shelf Mpl

/-- three jobs, each in a block of its own -/
structure Tri (w W : World) (gc : Nat) (a b c : Array Value) : Prop where
  a : Box W w.heap.size 36 a
  b : Box W (w.heap.size + 1) 36 b
  c : Box W gc 36 c
  low : Below w.heap.size w W
theorem Tri.under {w W W' : World} {gc : Nat} {a b c : Array Value} (h : Tri w W gc a b c) (hb : Below W.heap.size W W') : Tri w W' gc a b c := ⟨h.a.under hb, h.b.under hb, h.c.under hb, h.low.trans (hb.mono h.low.size)⟩
theorem tri_cells {w W : World} {gc : Nat} {a0 a1 a2 a3 a4 b0 b1 b2 b3 b4 c0 c1 c2 c3 c4 : Value} (h : Tri w W gc #[a0, a1, a2, a3, a4] #[b0, b1, b2, b3, b4] #[c0, c1, c2, c3, c4]) :
    (W.cell? ⟨w.heap.size, 0, none⟩ = some a0 ∧ W.cell? ⟨w.heap.size, 1, none⟩ = some a1 ∧ W.cell? ⟨w.heap.size, 2, none⟩ = some a2 ∧ W.cell? ⟨w.heap.size, 3, none⟩ = some a3 ∧ W.cell? ⟨w.heap.size, 4, none⟩ = some a4) ∧
    (W.cell? ⟨w.heap.size + 1, 0, none⟩ = some b0 ∧ W.cell? ⟨w.heap.size + 1, 1, none⟩ = some b1 ∧ W.cell? ⟨w.heap.size + 1, 2, none⟩ = some b2 ∧ W.cell? ⟨w.heap.size + 1, 3, none⟩ = some b3 ∧ W.cell? ⟨w.heap.size + 1, 4, none⟩ = some b4) ∧
    (W.cell? ⟨gc, 0, none⟩ = some c0 ∧ W.cell? ⟨gc, 1, none⟩ = some c1 ∧ W.cell? ⟨gc, 2, none⟩ = some c2 ∧ W.cell? ⟨gc, 3, none⟩ = some c3 ∧ W.cell? ⟨gc, 4, none⟩ = some c4) := ⟨job_cells h.a, job_cells h.b, job_cells h.c⟩

set_option maxHeartbeats 16000000 in
set_option maxRecDepth 100000 in
theorem walk_CasingChecks (j : Job) (v0 : Value) (o : Job) (v1 : Value) (w : World) (hv : JobV w w.heap.size v0 j) (_hin : JobIn j) (hv1 : JobV w w.heap.size v1 o) (_hin1 : JobIn o) :
    Calls Try.prog 12 #[v0, v1] w fun e w' => e = .returned (.bool true) ∧ Below w.heap.size w w' := by
  have HV := Lib.hid hv
  have HV1 := Lib.hid hv1
  have HSM := Lib.hid (fun W (hW : Below w.heap.size w W) => law05_small j _ W (HV.out.below hW))
  have HSM1 := Lib.hid (fun W (hW : Below w.heap.size w W) => law05_small o _ W (HV1.out.below hW))
  obtain ⟨AE, cE, AL, cL, AG, cG, rfl, _, _, _, _⟩ := hv
  obtain ⟨AE1, cE1, AL1, cL1, AG1, cG1, rfl, _, _, _, _⟩ := hv1
  clear _hin _hin1
  obtain ⟨w0, hw0⟩ : ∃ w0, (w.alloc (.cells #[.slice AE j.Ends.length cE, .slice AL j.Loads.length cL, .slice AG j.Grades.length cG, .int .i64 j.Factor, .int .i64 j.Over] 36)).alloc (.cells #[.slice AE1 o.Ends.length cE1, .slice AL1 o.Loads.length cL1, .slice AG1 o.Grades.length cG1, .int .i64 o.Factor, .int .i64 o.Over] 36) = w0 := ⟨_, rfl⟩
  have PA := Lib.hid (show Pair w w0 #[.slice AE j.Ends.length cE, .slice AL j.Loads.length cL, .slice AG j.Grades.length cG, .int .i64 j.Factor, .int .i64 j.Over] #[.slice AE1 o.Ends.length cE1, .slice AL1 o.Loads.length cL1, .slice AG1 o.Grades.length cG1, .int .i64 o.Factor, .int .i64 o.Over] from
    ⟨by rw [← hw0]; exact (Box.new w _ _ rfl).alloc _, by rw [← hw0]; exact Box.new _ _ _ (by simp), by rw [← hw0]; exact (by repeat (first | exact Below.refl _ _ | assumption | refine Below.setCell ?_ (by first | (simp; done) | (simp; omega)) _ | refine belowDrewN ?_ _ | refine Below.drew ?_ | refine Below.alloc ?_ (by first | (simp; done) | (simp; omega)) _))⟩)
  have HW0 := Lib.hid hw0
  clear hw0
  obtain ⟨q0, q1, q2, q3, q4⟩ := job_cells PA.out.a
  cases hs : smallJob j
  · rw [hs] at HSM
    clear hs HSM1
    generalize j.Ends.length = nE at *
    generalize j.Loads.length = nL at *
    generalize j.Grades.length = nG at *
    generalize o.Ends.length = mE at *
    generalize o.Loads.length = mL at *
    generalize o.Grades.length = mG at *
    go_enter Try.func12, Try.ntmps12
    go_upto_region 1 with fail
    rw [HW0.out]
    go_wp2_with fail
    refine (HSM.out _ PA.out.low).mono ?_
    rintro e w1 ⟨rfl, hb1⟩
    have HB1 := Lib.hid (PA.out.low.trans (hb1.mono PA.out.low.size))
    go_wp2_with fail
    refine (law05_awake _).mono ?_
    rintro e w2 ⟨rfl, hb2⟩
    go_wp2_with fail
    go_ret
    exact ⟨rfl, HB1.out.trans (hb2.mono HB1.out.size)⟩
  rw [hs] at HSM
  cases ho : smallJob o
  · rw [ho] at HSM1
    clear hs ho
    generalize j.Ends.length = nE at *
    generalize j.Loads.length = nL at *
    generalize j.Grades.length = nG at *
    generalize o.Ends.length = mE at *
    generalize o.Loads.length = mL at *
    generalize o.Grades.length = mG at *
    go_enter Try.func12, Try.ntmps12
    go_upto_region 1 with fail
    rw [HW0.out]
    go_wp2_with fail
    refine (HSM.out _ PA.out.low).mono ?_
    rintro e w1 ⟨rfl, hb1⟩
    have PA1 := Lib.hid (PA.out.under hb1)
    clear hb1 q0 q1 q2 q3 q4
    obtain ⟨q0, q1, q2, q3, q4⟩ := job_cells PA1.out.b
    go_wp2_with fail
    refine (HSM1.out _ PA1.out.low).mono ?_
    rintro e w2 ⟨rfl, hb2⟩
    have HB1 := Lib.hid (PA1.out.low.trans (hb2.mono PA1.out.low.size))
    clear hb2
    go_wp2_with fail
    refine (law05_awake _).mono ?_
    rintro e w2 ⟨rfl, hb2⟩
    go_wp2_with fail
    go_ret
    exact ⟨rfl, HB1.out.trans (hb2.mono HB1.out.size)⟩
  rw [ho] at HSM1
  obtain ⟨hs1, hs2, hs3, hs4⟩ := small_parts hs
  have HCC := Lib.hid (fun W (hW : Below w.heap.size w W) => casing_Copy j _ W (HV.out.below hW) (by omega) (by omega) (by omega) hs4)
  have HCP := Lib.hid (fun W (hW : Below w.heap.size w W) => ref05_Copy j _ W (HV.out.below hW) (by omega) (by omega) (by omega) hs4)
  have H1 := Lib.hid (fun W (hW : Below w.heap.size w W) => casing_Check j _ W (HV.out.below hW))
  have H2 := Lib.hid (fun W (hW : Below w.heap.size w W) => ref05_Check j _ W (HV.out.below hW))
  have H3 := Lib.hid (fun W (hW : Below w.heap.size w W) => casing_Same j o _ _ W (HV.out.below hW) (HV1.out.below hW) hs ho)
  have H4 := Lib.hid (fun W (hW : Below w.heap.size w W) => ref05_Same j o _ _ W (HV.out.below hW) (HV1.out.below hW) hs ho)
  have H6 := Lib.hid (fun v W (hW : Below w.heap.size w W) (hv : JobV W W.heap.size v j) => (by have := casing_Same j j _ v W (HV.out.below hW) hv hs hs; rw [sameJob_self] at this; exact this :
    Calls Try.prog 43 #[.agg #[.slice AE j.Ends.length cE, .slice AL j.Loads.length cL, .slice AG j.Grades.length cG, .int .i64 j.Factor, .int .i64 j.Over], v] W fun e w' => e = .returned (.bool true) ∧ Below W.heap.size W w'))
  have H7 := Lib.hid (fun v W (hW : Below w.heap.size w W) (hv : JobV W W.heap.size v j) => (by have := ref05_Same j j v _ W hv (HV.out.below hW) hs hs; rw [sameJob_self] at this; exact this :
    Calls Try.prog 38 #[v, .agg #[.slice AE j.Ends.length cE, .slice AL j.Loads.length cL, .slice AG j.Grades.length cG, .int .i64 j.Factor, .int .i64 j.Over]] W fun e w' => e = .returned (.bool true) ∧ Below W.heap.size W w'))
  have H8 := Lib.hid (fun v W (hW : Below w.heap.size w W) (hv : JobV W W.heap.size v j) => (by have := ref05_Same j j _ v W (HV.out.below hW) hv hs hs; rw [sameJob_self] at this; exact this :
    Calls Try.prog 38 #[.agg #[.slice AE j.Ends.length cE, .slice AL j.Loads.length cL, .slice AG j.Grades.length cG, .int .i64 j.Factor, .int .i64 j.Over], v] W fun e w' => e = .returned (.bool true) ∧ Below W.heap.size W w'))
  have HFORM := Lib.hid (fun (W : World) (base : Nat) v (h : JobOwn W base v j) => h.form)
  have HLL := Lib.hid (fun i (hi : i < j.Loads.length) => hs4 i hi)
  clear hs hs4 ho
  generalize sameJob j o = same at *
  generalize checkJob j = chk at *
  generalize hnE : j.Ends.length = nE at *
  generalize hnL : j.Loads.length = nL at *
  generalize hnG : j.Grades.length = nG at *
  have HN := Lib.hid (And.intro hnE (And.intro hnL hnG))
  clear hnE hnL hnG
  generalize o.Ends.length = mE at *
  generalize o.Loads.length = mL at *
  generalize o.Grades.length = mG at *
  generalize j.Factor = F at *
  generalize j.Over = O at *
  generalize o.Factor = F1 at *
  generalize o.Over = O1 at *
  go_enter Try.func12, Try.ntmps12
  go_upto_region 1 with fail
  rw [HW0.out]
  go_wp2_with fail
  refine (HSM.out _ PA.out.low).mono ?_
  rintro e w1 ⟨rfl, hb1⟩
  have PA1 := Lib.hid (PA.out.under hb1)
  clear hb1 q0 q1 q2 q3 q4 PA HW0
  obtain ⟨q0, q1, q2, q3, q4⟩ := job_cells PA1.out.b
  go_wp2_with fail
  refine (HSM1.out _ PA1.out.low).mono ?_
  rintro e w2 ⟨rfl, hb2⟩
  have PA2 := Lib.hid (PA1.out.under hb2)
  clear hb2 q0 q1 q2 q3 q4 PA1
  obtain ⟨q0, q1, q2, q3, q4⟩ := job_cells PA2.out.a
  go_wp2_with fail
  refine (HCC.out _ PA2.out.low).mono ?_
  rintro e w3 ⟨⟨v, rfl, hown⟩, hb3⟩
  obtain ⟨aE, eE, aL, eL, aG, eG, hform⟩ := HFORM.out _ _ _ hown
  subst hform
  have PA3 := Lib.hid (PA2.out.under hb3)
  have HBB := Lib.hid (show w.heap.size ≤ w2.heap.size from PA2.out.low.size)
  have OC := Lib.hid hown
  clear hown hb3 q0 q1 q2 q3 q4 PA2 HCC HSM HSM1
  obtain ⟨w4, hw4⟩ : ∃ w4, w3.alloc (.cells #[.slice aE nE eE, .slice aL nL eL, .slice aG nG eG, .int .i64 F, .int .i64 O] 36) = w4 := ⟨_, rfl⟩
  have hb4 : Below w3.heap.size w3 w4 := by rw [← hw4]; exact (Below.refl _ _).alloc (Nat.le_refl _) _
  have T4 := Lib.hid (show Tri w w4 w3.heap.size #[.slice AE nE cE, .slice AL nL cL, .slice AG nG cG, .int .i64 F, .int .i64 O] #[.slice AE1 mE cE1, .slice AL1 mL cL1, .slice AG1 mG cG1, .int .i64 F1, .int .i64 O1] #[.slice aE nE eE, .slice aL nL eL, .slice aG nG eG, .int .i64 F, .int .i64 O] from
    ⟨PA3.out.a.under hb4, PA3.out.b.under hb4, by rw [← hw4]; exact Box.new _ _ _ rfl, PA3.out.low.trans (hb4.mono PA3.out.low.size)⟩)
  have OC4 := Lib.hid (OC.out.under hb4)
  have HW4 := Lib.hid hw4
  have hg0 : w.heap.size ≤ w3.heap.size := PA3.out.low.size
  clear hw4 hb4 PA3 OC
  go_upto_region 4 with fail
  rw [HW4.out]
  clear HW4
  generalize w3.heap.size = gc at *
  have hgc : gc < w4.heap.size := T4.out.c.lt
  have hga : w.heap.size < w4.heap.size := T4.out.a.lt
  have hgb : w.heap.size + 1 < w4.heap.size := T4.out.b.lt
  have D0 := Lib.hid (T4.out.under (Below.refl _ _).drew)
  have C0 := Lib.hid (OC4.out.under (Below.refl _ _).drew)
  clear T4 OC4
  go_region_held3 (fun w' => (w'.cell? ⟨w.heap.size, 0, none⟩ = some (.slice AE nE cE) ∧ w'.cell? ⟨w.heap.size, 1, none⟩ = some (.slice AL nL cL) ∧ w'.cell? ⟨w.heap.size, 2, none⟩ = some (.slice AG nG cG) ∧ w'.cell? ⟨w.heap.size, 3, none⟩ = some (.int .i64 F) ∧ w'.cell? ⟨w.heap.size, 4, none⟩ = some (.int .i64 O)) ∧ (w'.cell? ⟨w.heap.size + 1, 0, none⟩ = some (.slice AE1 mE cE1) ∧ w'.cell? ⟨w.heap.size + 1, 1, none⟩ = some (.slice AL1 mL cL1) ∧ w'.cell? ⟨w.heap.size + 1, 2, none⟩ = some (.slice AG1 mG cG1) ∧ w'.cell? ⟨w.heap.size + 1, 3, none⟩ = some (.int .i64 F1) ∧ w'.cell? ⟨w.heap.size + 1, 4, none⟩ = some (.int .i64 O1)) ∧ (w'.cell? ⟨gc, 0, none⟩ = some (.slice aE nE eE) ∧ w'.cell? ⟨gc, 1, none⟩ = some (.slice aL nL eL) ∧ w'.cell? ⟨gc, 2, none⟩ = some (.slice aG nG eG) ∧ w'.cell? ⟨gc, 3, none⟩ = some (.int .i64 F) ∧ w'.cell? ⟨gc, 4, none⟩ = some (.int .i64 O)))
    (first | exact tri_cells D0.out | exact tri_cells D1.out | exact tri_cells D2.out | exact tri_cells D3.out | exact tri_cells D4.out | exact tri_cells D5.out | exact tri_cells D6.out | exact tri_cells D7.out)
    (first
      | (go_at_call 41; (with_reducible refine (H1.out _ D0.out.low).mono ?_); rintro e x1 ⟨rfl, hb⟩; have D1 := Lib.hid (D0.out.under hb); have C1 := Lib.hid (C0.out.under hb); clear hb)
      | (go_at_call 42; (with_reducible refine (H2.out _ D1.out.low).mono ?_); rintro e x2 ⟨rfl, hb⟩; have D2 := Lib.hid (D1.out.under hb); have C2 := Lib.hid (C1.out.under hb); clear hb)
      | (go_at_call 43; (with_reducible refine (H3.out _ D2.out.low).mono ?_); rintro e x3 ⟨rfl, hb⟩; have D3 := Lib.hid (D2.out.under hb); have C3 := Lib.hid (C2.out.under hb); clear hb)
      | (go_at_call 38; (with_reducible refine (H4.out _ D3.out.low).mono ?_); rintro e x4 ⟨rfl, hb⟩; have D4 := Lib.hid (D3.out.under hb); have C4 := Lib.hid (C3.out.under hb); clear hb)
      | (go_at_call 35; (with_reducible refine (HCP.out _ D4.out.low).mono ?_); rintro e x5 ⟨⟨v5, rfl, hr⟩, hb⟩; have D5 := Lib.hid (D4.out.under hb); have C5 := Lib.hid (C4.out.under hb); have J5 := Lib.hid hr.job; clear hr; clear hb)
      | (go_at_call 43; (with_reducible refine (H6.out _ _ D5.out.low J5.out).mono ?_); rintro e x6 ⟨rfl, hb⟩; have D6 := Lib.hid (D5.out.under hb); have C6 := Lib.hid (C5.out.under hb); clear hb)
      | (go_at_call 38; (with_reducible refine (H7.out _ _ D6.out.low C6.out.job).mono ?_); rintro e x7 ⟨rfl, hb⟩; have D7 := Lib.hid (D6.out.under hb); have C7 := Lib.hid (C6.out.under hb); clear hb)
      | fail)
  clear D0 D1 D2 D3 D4 D5 D6 C0 C1 C2 C3 C4 C5 C6 J5 H1 H2 H3 H4 H6 H7
  obtain ⟨q0, q1, q2, q3, q4⟩ := job_cells D7.out.a
  go_wp2_with fail
  refine (HCP.out _ D7.out.low).mono ?_
  rintro e w8 ⟨⟨v, rfl, hown⟩, hb8⟩
  obtain ⟨bE, fE, bL, fL, bG, fG, hform⟩ := HFORM.out _ _ _ hown
  subst hform
  have hlim : Hid (x7.heap.size ≤ w8.heap.size) := hb8.size
  obtain ⟨ls, l1, l2, l3, l4⟩ := C7.out.low
  have HNK := Lib.hid (fun k (x : LoadC) (hx : ls[k]? = some x) => (by obtain ⟨h1, h2⟩ := l4 k x hx; rw [← h2]; exact (HLL.out k (by have := HN.out.2.1; omega)).1 : x.s.In.length ≤ 1000))
  obtain ⟨w9, hw9⟩ : ∃ w9, w8.alloc (.cells #[.slice bE nE fE, .slice bL nL fL, .slice bG nG fG, .int .i64 F, .int .i64 O] 36) = w9 := ⟨_, rfl⟩
  have hb9 : Below w8.heap.size w8 w9 := by rw [← hw9]; exact (Below.refl _ _).alloc (Nat.le_refl _) _
  have hb79 := hb8.trans (hb9.mono hb8.size)
  have T9 := Lib.hid (show ChkSt w w2.heap.size x7.heap.size gc w8.heap.size #[.slice AE nE cE, .slice AL nL cL, .slice AG nG cG, .int .i64 F, .int .i64 O] #[.slice aE nE eE, .slice aL nL eL, .slice aG nG eG, .int .i64 F, .int .i64 O] #[.slice bE nE fE, .slice bL nL fL, .slice bG nG fG, .int .i64 F, .int .i64 O] j aE aL nE eE nL eL ls w9 from
    ⟨D7.out.a.under hb79, D7.out.c.under hb79, by rw [← hw9]; exact Box.new _ _ _ rfl, D7.out.low.trans (hb79.mono D7.out.low.size), hown.under hb9, l1.under hb79, own_under l2 hb79, fun x hx => (l3 x hx).under hb79⟩)
  have HW9 := Lib.hid hw9
  clear hw9 hb9 hb79 hb8 hown l1 l2 l3 l4 q0 q1 q2 q3 q4 D7 C7
  go_upto_region 7 with fail
  rw [HW9.out]
  clear HW9
  generalize w8.heap.size = gw at *
  generalize x7.heap.size = lim at *
  go_wp2_with fail
  clear hlim
  go_loopw [7] (fun s7 wr => ∃ k : Nat, k ≤ nE ∧ s7 = .int .i64 k ∧ Hid (ChkSt w w2.heap.size lim gc gw #[.slice AE nE cE, .slice AL nL cL, .slice AG nG cG, .int .i64 F, .int .i64 O] #[.slice aE nE eE, .slice aL nL eL, .slice aG nG eG, .int .i64 F, .int .i64 O] #[.slice bE nE fE, .slice bL nL fL, .slice bG nG fG, .int .i64 F, .int .i64 O] j aE aL nE eE nL eL ls wr)) (fun s7 _ => nE - (intOf s7).toNat)
  case atStart => exact ⟨0, Nat.zero_le _, rfl, T9⟩
  case round =>
    clear T9
    obtain ⟨k, hk, rfl, HS⟩ := hrel
    obtain ⟨q0, q1, q2, q3, q4⟩ := job_cells HS.out.bc
    by_cases hlt : k < nE
    · have t0 : decide (k < nE) = true := decide_eq_true hlt
      have z0 : (k : Int) < (nE : Int) := by omega
      obtain ⟨g, x, cs, rfl, hgB, hgL, hgw, c0, f0, HX⟩ := HS.out.end_ hlt
      have HS' := Lib.hid (fun a => HS.out.put1 (i := k) HX (Nat.le_trans HBB.out hgB) hgL a)
      clear HS HX hgB hgL
      go_wp2_with fail
      go_roundw
      case rel => exact ⟨k + 1, hlt, by go_num, HS'.out _⟩
      case measure => simp [intOf]; omega
    · obtain rfl : k = nE := by omega
      have t0 : decide (k < k) = false := decide_eq_false hlt
      go_wp2_with fail
      clear t0 hlt hk q0 q1 q2 q3 q4
      go_loopw [8] (fun s8 wr => ∃ i : Nat, i ≤ nL ∧ s8 = .int .i64 i ∧ Hid (ChkSt w w2.heap.size lim gc gw #[.slice AE k cE, .slice AL nL cL, .slice AG nG cG, .int .i64 F, .int .i64 O] #[.slice aE k eE, .slice aL nL eL, .slice aG nG eG, .int .i64 F, .int .i64 O] #[.slice bE k fE, .slice bL nL fL, .slice bG nG fG, .int .i64 F, .int .i64 O] j aE aL k eE nL eL ls wr)) (fun s8 _ => nL - (intOf s8).toNat)
      case atStart => exact ⟨0, Nat.zero_le _, rfl, HS⟩
      case round =>
        clear HS
        obtain ⟨i, hi, rfl, HS⟩ := hrel
        by_cases hlt : i < nL
        · obtain ⟨gL, x, _, rfl, hxk, hgl, c0⟩ := HS.out.load hlt
          have n0 := HNK.out i x hxk
          obtain ⟨xAI, xcI, xAO, xcO, xs⟩ := x
          dsimp only at n0 c0
          have t1 : decide (i < nL) = true := decide_eq_true hlt
          have z1 : (i : Int) < (nL : Int) := by omega
          obtain ⟨q0, q1, q2, q3, q4⟩ := job_cells HS.out.bc
          go_wp2_with fail
          clear q0 q1 q2 q3 q4 c0
          go_loopw [9] (fun s9 wy => ∃ m : Nat, m ≤ xs.In.length ∧ s9 = .int .i64 m ∧ Hid (ChkSt w w2.heap.size lim gc gw #[.slice AE k cE, .slice AL nL cL, .slice AG nG cG, .int .i64 F, .int .i64 O] #[.slice aE k eE, .slice (some ⟨gL, 0, none⟩) nL eL, .slice aG nG eG, .int .i64 F, .int .i64 O] #[.slice bE k fE, .slice bL nL fL, .slice bG nG fG, .int .i64 F, .int .i64 O] j aE (some ⟨gL, 0, none⟩) k eE nL eL ls wy)) (fun s9 _ => xs.In.length - (intOf s9).toNat)
          case atStart => exact ⟨0, Nat.zero_le _, rfl, HS⟩
          case round =>
            clear HS hgl
            obtain ⟨m, hm, rfl, HI⟩ := hrel
            obtain ⟨q0, q1, q2, q3, q4⟩ := job_cells HI.out.bc
            obtain ⟨hgl, c0⟩ := HI.out.load_at hlt hxk
            dsimp only at c0
            by_cases hmt : m < xs.In.length
            · have t2 : decide (m < xs.In.length) = true := decide_eq_true hmt
              have z2 : (m : Int) < (xs.In.length : Int) := by omega
              obtain ⟨gk, v, cs, hAI, hgB, hgL, hgw, c1, f1, HX⟩ := HI.out.knot hxk hmt
              dsimp only at hAI
              subst hAI
              have HI' := Lib.hid (fun a => HI.out.put2 (i := m * 2 + 1) HX (Nat.le_trans HBB.out hgB) hgL a)
              clear HI HX hgB hgL
              go_wp2_with fail
              go_roundw
              case rel => exact ⟨m + 1, hmt, by go_num, HI'.out _⟩
              case measure => simp [intOf]; omega
            · obtain rfl : m = xs.In.length := by omega
              have t2 : decide (xs.In.length < xs.In.length) = false := decide_eq_false hmt
              go_wp2_with fail
              go_roundw
              case rel => exact ⟨i + 1, hlt, by go_num, HI⟩
              case measure => simp [intOf]; omega
        · obtain rfl : i = nL := by omega
          have t1 : decide (i < i) = false := decide_eq_false hlt
          obtain ⟨q0, q1, q2, q3, q4⟩ := job_cells HS.out.bc
          obtain ⟨r0, r1, r2, r3, r4⟩ := job_cells HS.out.bj
          obtain ⟨p0, p1, p2, p3, p4⟩ := job_cells HS.out.bw
          go_wp2_with fail
          clear q0 q1 q2 q3 q4 r0 r1 r2 r3 r4 p0 p1 p2 p3 p4
          refine (H8.out _ _ HS.out.low HS.out.was.job).mono ?_
          rintro e y1 ⟨rfl, hb⟩
          have HZ := Lib.hid (HS.out.low.trans (hb.mono HS.out.low.size))
          clear hb HS
          go_wp2_with fail
          refine (law05_awake _).mono ?_
          rintro e y2 ⟨rfl, hb⟩
          go_wp2_with fail
          go_ret
          exact ⟨rfl, HZ.out.trans (hb.mono HZ.out.size)⟩

end Go.Proofs.Ytannipfohicpmaa
