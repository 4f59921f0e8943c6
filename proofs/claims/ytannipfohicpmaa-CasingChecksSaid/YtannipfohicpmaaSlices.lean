/- Walks of Go's slices.Equal and slices.EqualFunc, and of casing.Same. (Printed by gen_slices.py.) -/
import Derived.Test.YtannipfohicpmaaPackCopy
namespace Go.Proofs.Ytannipfohicpmaa
open Go.RowKit Go.Shelf Mpl

set_option maxHeartbeats 4000000 in
theorem eq_int64 (x y : List Int) (A B : Option Addr) (c d : Nat) (w : World) (hx : Ints w w.heap.size A x) (hy : Ints w w.heap.size B y) (hnx : x.length ≤ 1000) (hny : y.length ≤ 1000) :
    Calls Try.prog 79 #[.slice A x.length c, .slice B y.length d] w fun e w' => e = .returned (.bool (decide (x = y))) ∧ Below w.heap.size w w' := by
  have HX := Lib.hid hx
  have HY := Lib.hid hy
  have hst := Lib.hid (fun k => same_step (x := x) (y := y) (k := k))
  have HLEN := Lib.hid (fun (h : x = y) => congrArg List.length h)
  generalize hres : decide (x = y) = res
  have HR := Lib.hid hres
  clear hx hy hres
  generalize hn0 : x.length = n0 at *
  generalize hn1 : y.length = n1 at *
  have HN0 := Lib.hid hn0
  have HN1 := Lib.hid hn1
  clear hn0 hn1
  by_cases hlen : n0 = n1
  case neg =>
    have t0 : ((n0 : Int) != (n1 : Int)) = true := bne_iff_ne.2 (by omega)
    have t0' : (n0 != n1) = true := bne_iff_ne.2 hlen
    have hf : Hid (false = res) := by unfold Hid; rw [← HR.out]; exact (decide_eq_false fun h => hlen (HLEN.out h)).symm
    clear hlen
    go_enter Try.func79, Try.ntmps79
    go_wp2_with fail
    go_ret
    exact ⟨ret_bool hf.out, Below.refl _ _⟩
  subst hlen
  have t0 : ((n0 : Int) != (n0 : Int)) = false := by simp
  go_enter Try.func79, Try.ntmps79
  go_wp2_with fail
  clear t0 HLEN
  go_loopw [13] (fun s13 wr => ∃ k : Nat, k ≤ n0 ∧ s13 = .int .i64 k ∧ Hid (decide (x.drop k = y.drop k) = res) ∧ Hid (Below w.heap.size w wr)) (fun s13 _ => n0 - (intOf s13).toNat)
  case atStart => exact ⟨0, Nat.zero_le _, rfl, HR, Below.refl _ _⟩
  case round =>
    obtain ⟨k, hk, rfl, hr, BW⟩ := hrel
    by_cases h0 : k < n0
    · have t0 : decide (k < n0) = true := decide_eq_true h0
      have hs := Lib.hid (hst.out k h0 h0)
      obtain ⟨ab, ao, rfl, hab, hac⟩ := HX.out (by rw [HN0.out]; omega)
      obtain ⟨bb, bo, rfl, hbb, hbc⟩ := HY.out (by rw [HN1.out]; omega)
      have c0 := oldCell BW.out hab (hac k (by rw [HN0.out]; exact h0))
      have c1 := oldCell BW.out hbb (hbc k (by rw [HN1.out]; exact h0))
      clear hac hbc
      generalize pick x k = a at *
      generalize pick y k = b at *
      have z1 : (k : Int) < (n0 : Int) := by omega
      have z2 : (0 : Int) ≤ (k : Int) := by omega
      by_cases hq : a = b
      · have hq' : (a != b) = false := by simp [hq]
        have hn : Hid (decide (x.drop (k + 1) = y.drop (k + 1)) = res) := by unfold Hid; rw [← hr.out]; exact decide_eq_decide.2 ⟨fun h => hs.out.2 ⟨hq, h⟩, fun h => (hs.out.1 h).2⟩
        clear hq hs
        go_wp2_with fail
        go_quiet (fail)
        go_wp2_with fail
        go_roundw
        case rel => exact ⟨k + 1, h0, by go_num, hn, belowDrewN BW.out _⟩
        case measure => simp [intOf]; omega
      · have hq' : (a != b) = true := by
          simpa using hq
        have hf : Hid (false = res) := by unfold Hid; rw [← hr.out]; exact (decide_eq_false fun h => hq (hs.out.1 h).1).symm
        clear hq hs
        go_wp2_with fail
        go_quiet (fail)
        go_wp2_with fail
        go_ret
        exact ⟨ret_bool hf.out, belowDrewN BW.out _⟩
    · obtain rfl : n0 = k := by omega
      have t0 : decide (n0 < n0) = false := decide_eq_false h0
      have hf : Hid (true = res) := by
        unfold Hid; rw [← hr.out, List.drop_eq_nil_of_le (show x.length ≤ n0 by rw [HN0.out]; omega), List.drop_eq_nil_of_le (show y.length ≤ n0 by rw [HN1.out]; omega)]; rfl
      go_wp2_with fail
      go_ret
      exact ⟨ret_bool hf.out, BW.out⟩

set_option maxHeartbeats 4000000 in
theorem eq_knot (x y : List Knot) (A B : Option Addr) (c d : Nat) (w : World) (hx : Knots w w.heap.size A x) (hy : Knots w w.heap.size B y) (hnx : x.length ≤ 1000) (hny : y.length ≤ 1000) :
    Calls Try.prog 102 #[.slice A x.length c, .slice B y.length d] w fun e w' => e = .returned (.bool (decide (x = y))) ∧ Below w.heap.size w w' := by
  have HX := Lib.hid hx
  have HY := Lib.hid hy
  have hst := Lib.hid (fun k => knot_step (x := x) (y := y) (k := k))
  have hnq := run_neq_knot
  have HLEN := Lib.hid (fun (h : x = y) => congrArg List.length h)
  generalize hres : decide (x = y) = res
  have HR := Lib.hid hres
  clear hx hy hres
  generalize hn0 : x.length = n0 at *
  generalize hn1 : y.length = n1 at *
  have HN0 := Lib.hid hn0
  have HN1 := Lib.hid hn1
  clear hn0 hn1
  by_cases hlen : n0 = n1
  case neg =>
    have t0 : ((n0 : Int) != (n1 : Int)) = true := bne_iff_ne.2 (by omega)
    have t0' : (n0 != n1) = true := bne_iff_ne.2 hlen
    have hf : Hid (false = res) := by unfold Hid; rw [← HR.out]; exact (decide_eq_false fun h => hlen (HLEN.out h)).symm
    clear hlen
    go_enter Try.func102, Try.ntmps102
    go_wp2_with fail
    go_ret
    exact ⟨ret_bool hf.out, Below.refl _ _⟩
  subst hlen
  have t0 : ((n0 : Int) != (n0 : Int)) = false := by simp
  go_enter Try.func102, Try.ntmps102
  go_wp2_with fail
  clear t0 HLEN
  go_loopw [13] (fun s13 wr => ∃ k : Nat, k ≤ n0 ∧ s13 = .int .i64 k ∧ Hid (decide (x.drop k = y.drop k) = res) ∧ Hid (Below w.heap.size w wr)) (fun s13 _ => n0 - (intOf s13).toNat)
  case atStart => exact ⟨0, Nat.zero_le _, rfl, HR, Below.refl _ _⟩
  case round =>
    obtain ⟨k, hk, rfl, hr, BW⟩ := hrel
    by_cases h0 : k < n0
    · have t0 : decide (k < n0) = true := decide_eq_true h0
      have hs := Lib.hid (hst.out k h0 h0)
      obtain ⟨ab, ao, rfl, hab, hac⟩ := Knots.out HX.out (by rw [HN0.out]; omega)
      obtain ⟨bb, bo, rfl, hbb, hbc⟩ := Knots.out HY.out (by rw [HN1.out]; omega)
      obtain ⟨c0, c1⟩ := hac k (by rw [HN0.out]; exact h0)
      obtain ⟨e0, e1⟩ := hbc k (by rw [HN1.out]; exact h0)
      replace c0 := oldCell BW.out hab c0
      replace c1 := oldCell BW.out hab c1
      replace e0 := oldCell BW.out hbb e0
      replace e1 := oldCell BW.out hbb e1
      clear hac hbc
      generalize (kn x k).At = a0 at *
      generalize (kn x k).V = a1 at *
      generalize (kn y k).At = b0 at *
      generalize (kn y k).V = b1 at *
      have z1 : (k : Int) < (n0 : Int) := by omega
      have z2 : (0 : Int) ≤ (k : Int) := by omega
      by_cases hq : a0 = b0 ∧ a1 = b1
      · have hq' : (!(a0 == b0 && a1 == b1)) = false := by simp [hq]
        have hn : Hid (decide (x.drop (k + 1) = y.drop (k + 1)) = res) := by unfold Hid; rw [← hr.out]; exact decide_eq_decide.2 ⟨fun h => hs.out.2 ⟨hq.1, hq.2, h⟩, fun h => (hs.out.1 h).2.2⟩
        clear hq hs
        go_wp2_with fail
        go_quiet (fail)
        go_wp2_with fail
        go_roundw
        case rel => exact ⟨k + 1, h0, by go_num, hn, belowDrewN BW.out _⟩
        case measure => simp [intOf]; omega
      · have hq' : (!(a0 == b0 && a1 == b1)) = true := by
          simp only [Bool.not_eq_true', Bool.and_eq_false_iff, beq_eq_false_iff_ne]; omega
        have hf : Hid (false = res) := by unfold Hid; rw [← hr.out]; exact (decide_eq_false fun h => hq ⟨(hs.out.1 h).1, (hs.out.1 h).2.1⟩).symm
        clear hq hs
        go_wp2_with fail
        go_quiet (fail)
        go_wp2_with fail
        go_ret
        exact ⟨ret_bool hf.out, belowDrewN BW.out _⟩
    · obtain rfl : n0 = k := by omega
      have t0 : decide (n0 < n0) = false := decide_eq_false h0
      have hf : Hid (true = res) := by
        unfold Hid; rw [← hr.out, List.drop_eq_nil_of_le (show x.length ≤ n0 by rw [HN0.out]; omega), List.drop_eq_nil_of_le (show y.length ≤ n0 by rw [HN1.out]; omega)]; rfl
      go_wp2_with fail
      go_ret
      exact ⟨ret_bool hf.out, BW.out⟩

set_option maxHeartbeats 4000000 in
theorem eq_grade (x y : List Grade) (A B : Option Addr) (c d : Nat) (w : World) (hx : Grades w w.heap.size A x) (hy : Grades w w.heap.size B y) (hnx : x.length ≤ 1000) (hny : y.length ≤ 1000) :
    Calls Try.prog 82 #[.slice A x.length c, .slice B y.length d] w fun e w' => e = .returned (.bool (decide (x = y))) ∧ Below w.heap.size w w' := by
  have HX := Lib.hid hx
  have HY := Lib.hid hy
  have hst := Lib.hid (fun k => grade_step (x := x) (y := y) (k := k))
  have hng := run_neq_grade
  have HLEN := Lib.hid (fun (h : x = y) => congrArg List.length h)
  generalize hres : decide (x = y) = res
  have HR := Lib.hid hres
  clear hx hy hres
  generalize hn0 : x.length = n0 at *
  generalize hn1 : y.length = n1 at *
  have HN0 := Lib.hid hn0
  have HN1 := Lib.hid hn1
  clear hn0 hn1
  by_cases hlen : n0 = n1
  case neg =>
    have t0 : ((n0 : Int) != (n1 : Int)) = true := bne_iff_ne.2 (by omega)
    have t0' : (n0 != n1) = true := bne_iff_ne.2 hlen
    have hf : Hid (false = res) := by unfold Hid; rw [← HR.out]; exact (decide_eq_false fun h => hlen (HLEN.out h)).symm
    clear hlen
    go_enter Try.func82, Try.ntmps82
    go_wp2_with fail
    go_ret
    exact ⟨ret_bool hf.out, Below.refl _ _⟩
  subst hlen
  have t0 : ((n0 : Int) != (n0 : Int)) = false := by simp
  go_enter Try.func82, Try.ntmps82
  go_wp2_with fail
  clear t0 HLEN
  go_loopw [13] (fun s13 wr => ∃ k : Nat, k ≤ n0 ∧ s13 = .int .i64 k ∧ Hid (decide (x.drop k = y.drop k) = res) ∧ Hid (Below w.heap.size w wr)) (fun s13 _ => n0 - (intOf s13).toNat)
  case atStart => exact ⟨0, Nat.zero_le _, rfl, HR, Below.refl _ _⟩
  case round =>
    obtain ⟨k, hk, rfl, hr, BW⟩ := hrel
    by_cases h0 : k < n0
    · have t0 : decide (k < n0) = true := decide_eq_true h0
      have hs := Lib.hid (hst.out k h0 h0)
      obtain ⟨ab, ao, rfl, hab, hac⟩ := HX.out (by rw [HN0.out]; omega)
      obtain ⟨bb, bo, rfl, hbb, hbc⟩ := HY.out (by rw [HN1.out]; omega)
      obtain ⟨c0, c1, c2, c3, c4⟩ := hac k (by rw [HN0.out]; exact h0)
      obtain ⟨e0, e1, e2, e3, e4⟩ := hbc k (by rw [HN1.out]; exact h0)
      replace c0 := oldCell BW.out hab c0
      replace c1 := oldCell BW.out hab c1
      replace c2 := oldCell BW.out hab c2
      replace c3 := oldCell BW.out hab c3
      replace c4 := oldCell BW.out hab c4
      replace e0 := oldCell BW.out hbb e0
      replace e1 := oldCell BW.out hbb e1
      replace e2 := oldCell BW.out hbb e2
      replace e3 := oldCell BW.out hbb e3
      replace e4 := oldCell BW.out hbb e4
      clear hac hbc
      generalize gd x k = ga at *
      generalize gd y k = gb at *
      obtain ⟨g0, g1, g2, g3, g4⟩ := ga
      obtain ⟨f0, f1, f2, f3, f4⟩ := gb
      dsimp only at c0 c1 c2 c3 c4 e0 e1 e2 e3 e4
      have z1 : (k : Int) < (n0 : Int) := by omega
      have z2 : (0 : Int) ≤ (k : Int) := by omega
      by_cases hq : g0 = f0 ∧ g1 = f1 ∧ g2 = f2 ∧ g3 = f3 ∧ g4 = f4
      · have hq' : (!(g0 == f0 && (g1 == f1 && (g2 == f2 && (g3 == f3 && g4 == f4))))) = false := by simp [hq]
        have hn : Hid (decide (x.drop (k + 1) = y.drop (k + 1)) = res) := by unfold Hid; rw [← hr.out]; exact decide_eq_decide.2 ⟨fun h => hs.out.2 ⟨hq, h⟩, fun h => (hs.out.1 h).2⟩
        clear hq hs
        go_wp2_with fail
        go_quiet (fail)
        go_wp2_with fail
        go_roundw
        case rel => exact ⟨k + 1, h0, by go_num, hn, belowDrewN BW.out _⟩
        case measure => simp [intOf]; omega
      · have hq' : (!(g0 == f0 && (g1 == f1 && (g2 == f2 && (g3 == f3 && g4 == f4))))) = true := by
          rw [Bool.not_eq_true', Bool.eq_false_iff]; intro h; simp only [Bool.and_eq_true, beq_iff_eq] at h; exact hq h
        have hf : Hid (false = res) := by unfold Hid; rw [← hr.out]; exact (decide_eq_false fun h => hq (hs.out.1 h).1).symm
        clear hq hs
        go_wp2_with fail
        go_quiet (fail)
        go_wp2_with fail
        go_ret
        exact ⟨ret_bool hf.out, belowDrewN BW.out _⟩
    · obtain rfl : n0 = k := by omega
      have t0 : decide (n0 < n0) = false := decide_eq_false h0
      have hf : Hid (true = res) := by
        unfold Hid; rw [← hr.out, List.drop_eq_nil_of_le (show x.length ≤ n0 by rw [HN0.out]; omega), List.drop_eq_nil_of_le (show y.length ≤ n0 by rw [HN1.out]; omega)]; rfl
      go_wp2_with fail
      go_ret
      exact ⟨ret_bool hf.out, BW.out⟩

theorem stress_box {W : World} {g : Nat} {a b : Value} (h : Box W g 26 #[a, b]) : W.cell? ⟨g, 0, none⟩ = some a ∧ W.cell? ⟨g, 1, none⟩ = some b := ⟨h.cell 0, h.cell 1⟩

set_option maxHeartbeats 4000000 in
theorem casing_sameStress (x y : Stress) (v0 v1 : Value) (w : World) (hv0 : StressV w w.heap.size v0 x) (hv1 : StressV w w.heap.size v1 y) (h0 : x.In.length ≤ 1000 ∧ x.Out.length ≤ 1000) (h1 : y.In.length ≤ 1000 ∧ y.Out.length ≤ 1000) :
    Calls Try.prog 81 #[v0, v1] w fun e w' => e = .returned (.bool (decide (x.In = y.In) && decide (x.Out = y.Out))) ∧ Below w.heap.size w w' := by
  obtain ⟨AI, cI, AO, cO, rfl, hI, hO⟩ := hv0
  obtain ⟨AI', cI', AO', cO', rfl, hI', hO'⟩ := hv1
  have H1 := Lib.hid (fun W (hW : Below w.heap.size w W) => eq_knot x.In y.In AI AI' cI cI' W (hI.up hW hW.size) (hI'.up hW hW.size) h0.1 h1.1)
  have H2 := Lib.hid (fun W (hW : Below w.heap.size w W) => eq_knot x.Out y.Out AO AO' cO cO' W (hO.up hW hW.size) (hO'.up hW hW.size) h0.2 h1.2)
  clear hI hO hI' hO' h0 h1
  generalize decide (x.In = y.In) = q1 at *
  generalize decide (x.Out = y.Out) = q2 at *
  generalize x.In.length = n0 at *
  generalize x.Out.length = n1 at *
  generalize y.In.length = m0 at *
  generalize y.Out.length = m1 at *
  obtain ⟨w0, hw0⟩ : ∃ w0, (w.alloc (.cells #[.slice AI n0 cI, .slice AO n1 cO] 26)).alloc (.cells #[.slice AI' m0 cI', .slice AO' m1 cO'] 26) = w0 := ⟨_, rfl⟩
  have B0 := Lib.hid (show Box w0 w.heap.size 26 #[.slice AI n0 cI, .slice AO n1 cO] by rw [← hw0]; exact (Box.new w _ _ rfl).alloc _)
  have B1 := Lib.hid (show Box w0 (w.heap.size + 1) 26 #[.slice AI' m0 cI', .slice AO' m1 cO'] by rw [← hw0]; exact Box.new _ _ _ (by simp))
  have HB := Lib.hid (show Below w.heap.size w w0 by rw [← hw0]; exact (by repeat (first | exact Below.refl _ _ | assumption | refine Below.setCell ?_ (by first | (simp; done) | (simp; omega)) _ | refine belowDrewN ?_ _ | refine Below.drew ?_ | refine Below.alloc ?_ (by first | (simp; done) | (simp; omega)) _)))
  have HW0 := Lib.hid hw0
  clear hw0
  obtain ⟨a0, a1⟩ := stress_box B0.out
  obtain ⟨b0, b1⟩ := stress_box B1.out
  go_enter Try.func81, Try.ntmps81
  go_upto_region 1 with fail
  rw [HW0.out]
  go_wp2_with fail
  refine (H1.out _ HB.out).mono ?_
  rintro e w1 ⟨rfl, hb1⟩
  have HB1 := Lib.hid (HB.out.trans (hb1.mono HB.out.size))
  clear a0 a1 b0 b1
  cases q1
  · go_wp2_with fail
    go_ret
    exact ⟨rfl, HB1.out⟩
  · obtain ⟨a0, a1⟩ := stress_box (B0.out.under hb1)
    obtain ⟨b0, b1⟩ := stress_box (B1.out.under hb1)
    clear hb1
    go_wp2_with fail
    refine (H2.out _ HB1.out).mono ?_
    rintro e w2 ⟨rfl, hb2⟩
    go_wp2_with fail
    go_ret
    exact ⟨rfl, HB1.out.trans (hb2.mono HB1.out.size)⟩

set_option maxHeartbeats 8000000 in
set_option maxRecDepth 100000 in
theorem eq_loads (x y : List Stress) (A B : Option Addr) (c d : Nat) (w : World) (hx : Loads w w.heap.size A x) (hy : Loads w w.heap.size B y) (hnx : x.length ≤ 1000) (hny : y.length ≤ 1000) (h0 : ∀ i, i < x.length → (ld x i).In.length ≤ 1000 ∧ (ld x i).Out.length ≤ 1000) (h1 : ∀ i, i < y.length → (ld y i).In.length ≤ 1000 ∧ (ld y i).Out.length ≤ 1000) :
    Calls Try.prog 80 #[.slice A x.length c, .slice B y.length d, .func (.func 81) #[] #[]] w fun e w' => e = .returned (.bool (decide (x = y))) ∧ Below w.heap.size w w' := by
  have HX := Lib.hid hx
  have HY := Lib.hid hy
  have HX4 := Lib.hid h0
  have HY4 := Lib.hid h1
  have hst := Lib.hid (fun k => load_step (x := x) (y := y) (k := k))
  have HLEN := Lib.hid (fun (h : x = y) => congrArg List.length h)
  generalize hres : decide (x = y) = res
  have HR := Lib.hid hres
  clear hx hy hres h0 h1
  generalize hn0 : x.length = n0 at *
  generalize hn1 : y.length = n1 at *
  have HN0 := Lib.hid hn0
  have HN1 := Lib.hid hn1
  clear hn0 hn1
  by_cases hlen : n0 = n1
  case neg =>
    have t0 : ((n0 : Int) != (n1 : Int)) = true := bne_iff_ne.2 (by omega)
    have t0' : (n0 != n1) = true := bne_iff_ne.2 hlen
    have hf : Hid (false = res) := by unfold Hid; rw [← HR.out]; exact (decide_eq_false fun h => hlen (HLEN.out h)).symm
    clear hlen
    go_enter Try.func80, Try.ntmps80
    go_wp2_with fail
    go_ret
    exact ⟨ret_bool hf.out, Below.refl _ _⟩
  subst hlen
  have t0 : ((n0 : Int) != (n0 : Int)) = false := by simp
  go_enter Try.func80, Try.ntmps80
  go_wp2_with fail
  clear t0 HLEN
  go_loopw [17] (fun s17 wr => ∃ k : Nat, k ≤ n0 ∧ s17 = .int .i64 k ∧ Hid (decide (x.drop k = y.drop k) = res) ∧ Hid (Below w.heap.size w wr)) (fun s17 _ => n0 - (intOf s17).toNat)
  case atStart => exact ⟨0, Nat.zero_le _, rfl, HR, Below.refl _ _⟩
  case round =>
    obtain ⟨k, hk, rfl, hr, BW⟩ := hrel
    by_cases h0 : k < n0
    · have t0 : decide (k < n0) = true := decide_eq_true h0
      have hs := Lib.hid (hst.out k h0 h0)
      obtain ⟨b, off, AI, AO, cI, cO, rfl, hb, hc⟩ := HX.out (by rw [HN0.out]; omega)
      obtain ⟨b', off', AI', AO', cI', cO', rfl, hb', hc'⟩ := HY.out (by rw [HN1.out]; omega)
      obtain ⟨c0, c1, k0, k1⟩ := hc k (by rw [HN0.out]; exact h0)
      obtain ⟨e0, e1, k0', k1'⟩ := hc' k (by rw [HN1.out]; exact h0)
      replace c0 := oldCell BW.out hb c0
      replace c1 := oldCell BW.out hb c1
      replace e0 := oldCell BW.out hb' e0
      replace e1 := oldCell BW.out hb' e1
      have HSM := Lib.hid (fun W (hW : Below w.heap.size w W) => casing_sameStress (ld x k) (ld y k) _ _ W ⟨AI k, cI k, AO k, cO k, rfl, k0.up hW hW.size, k1.up hW hW.size⟩ ⟨AI' k, cI' k, AO' k, cO' k, rfl, k0'.up hW hW.size, k1'.up hW hW.size⟩ (HX4.out k h0) (HY4.out k h0))
      have z1 : (k : Int) < (n0 : Int) := by omega
      have z2 : (0 : Int) ≤ (k : Int) := by omega
      have hlb : b < wr.heap.size := Nat.lt_of_lt_of_le hb BW.out.size
      have hlb' : b' < wr.heap.size := Nat.lt_of_lt_of_le hb' BW.out.size
      clear hc hc' k0 k1 k0' k1'
      have hn : (decide ((ld x k).In = (ld y k).In) && decide ((ld x k).Out = (ld y k).Out)) = true → decide (x.drop (k + 1) = y.drop (k + 1)) = res := fun e => by
        simp only [Bool.and_eq_true, decide_eq_true_eq] at e
        rw [← hr.out]
        exact decide_eq_decide.2 ⟨fun h => hs.out.2 ⟨e.1, e.2, h⟩, fun h => (hs.out.1 h).2.2⟩
      have hf : (decide ((ld x k).In = (ld y k).In) && decide ((ld x k).Out = (ld y k).Out)) = false → false = res := fun e => by
        rw [← hr.out]
        refine (decide_eq_false fun h => ?_).symm
        rw [decide_eq_true (hs.out.1 h).1, decide_eq_true (hs.out.1 h).2.1] at e
        cases e
      have HN := Lib.hid hn
      have HF := Lib.hid hf
      clear hn hf hs
      generalize (decide ((ld x k).In = (ld y k).In) && decide ((ld x k).Out = (ld y k).Out)) = q at *
      generalize (ld x k).In.length = m0 at *
      generalize (ld x k).Out.length = m1 at *
      generalize (ld y k).In.length = m2 at *
      generalize (ld y k).Out.length = m3 at *
      obtain ⟨wp, hwp⟩ : ∃ wp, (wr.alloc (.cells #[.slice (AI k) m0 (cI k), .slice (AO k) m1 (cO k)] 26)).alloc (.cells #[.slice (AI' k) m2 (cI' k), .slice (AO' k) m3 (cO' k)] 26) = wp := ⟨_, rfl⟩
      have P0 := Lib.hid (show Box wp wr.heap.size 26 #[.slice (AI k) m0 (cI k), .slice (AO k) m1 (cO k)] by rw [← hwp]; exact (Box.new _ _ _ rfl).alloc _)
      have P1 := Lib.hid (show Box wp (wr.heap.size + 1) 26 #[.slice (AI' k) m2 (cI' k), .slice (AO' k) m3 (cO' k)] by rw [← hwp]; exact Box.new _ _ _ (by simp))
      have hbp : Below wr.heap.size wr wp := by rw [← hwp]; exact ((Below.refl _ _).alloc (Nat.le_refl _) _).alloc (by simp) _
      have BP := Lib.hid (BW.out.trans (hbp.mono BW.out.size))
      have HWP := Lib.hid hwp
      clear hwp hbp
      obtain ⟨x0, x1⟩ := stress_box P0.out
      obtain ⟨y0, y1⟩ := stress_box P1.out
      go_upto_region 7 with fail
      rw [HWP.out]
      cases q
      · have hf := Lib.hid (HF.out rfl)
        clear HN HF
        go_wp2_with fail
        refine (HSM.out _ BP.out).mono ?_
        rintro e w5 ⟨rfl, hb5⟩
        go_wp2_with fail
        go_ret
        exact ⟨ret_bool hf.out, BP.out.trans (hb5.mono BP.out.size)⟩
      · have hn := Lib.hid (HN.out rfl)
        clear HN HF
        go_wp2_with fail
        refine (HSM.out _ BP.out).mono ?_
        rintro e w5 ⟨rfl, hb5⟩
        go_wp2_with fail
        go_roundw
        case rel => exact ⟨k + 1, h0, by go_num, hn, BP.out.trans (hb5.mono BP.out.size)⟩
        case measure => simp [intOf]; omega
    · obtain rfl : n0 = k := by omega
      have t0 : decide (n0 < n0) = false := decide_eq_false h0
      have hf : Hid (true = res) := by
        unfold Hid; rw [← hr.out, List.drop_eq_nil_of_le (show x.length ≤ n0 by rw [HN0.out]; omega), List.drop_eq_nil_of_le (show y.length ≤ n0 by rw [HN1.out]; omega)]; rfl
      go_wp2_with fail
      go_ret
      exact ⟨ret_bool hf.out, BW.out⟩

set_option maxHeartbeats 8000000 in
set_option maxRecDepth 100000 in
theorem casing_Same (x y : Job) (v0 v1 : Value) (w : World) (hv0 : JobV w w.heap.size v0 x) (hv1 : JobV w w.heap.size v1 y) (hx : smallJob x = true) (hy : smallJob y = true) :
    Calls Try.prog 43 #[v0, v1] w fun e w' => e = .returned (.bool (sameJob x y)) ∧ Below w.heap.size w w' := by
  obtain ⟨AE, cE, AL, cL, AG, cG, rfl, _, hE, hL, hG⟩ := hv0
  obtain ⟨AE', cE', AL', cL', AG', cG', rfl, _, hE', hL', hG'⟩ := hv1
  obtain ⟨hx1, hx2, hx3, hx4⟩ := small_parts hx
  obtain ⟨hy1, hy2, hy3, hy4⟩ := small_parts hy
  have H1 := Lib.hid (fun W (hW : Below w.heap.size w W) => eq_int64 x.Ends y.Ends AE AE' cE cE' W (hE.up hW hW.size) (hE'.up hW hW.size) (by omega) (by omega))
  have H2 := Lib.hid (fun W (hW : Below w.heap.size w W) => eq_loads x.Loads y.Loads AL AL' cL cL' W (hL.up hW hW.size) (hL'.up hW hW.size) (by omega) (by omega) hx4 hy4)
  have H3 := Lib.hid (fun W (hW : Below w.heap.size w W) => eq_grade x.Grades y.Grades AG AG' cG cG' W (hG.up hW hW.size) (hG'.up hW hW.size) (by omega) (by omega))
  have hR : sameJob x y = (decide (x.Ends = y.Ends) && (decide (x.Loads = y.Loads) && (decide (x.Grades = y.Grades) && (decide (x.Factor = y.Factor) && decide (x.Over = y.Over))))) := by
    unfold sameJob
    cases decide (x.Ends = y.Ends) <;> cases decide (x.Loads = y.Loads) <;> cases decide (x.Grades = y.Grades) <;> cases decide (x.Factor = y.Factor) <;> cases decide (x.Over = y.Over) <;> rfl
  rw [hR]
  clear hR hE hL hG hE' hL' hG' hx hy hx4 hy4
  generalize decide (x.Ends = y.Ends) = q1 at *
  generalize decide (x.Loads = y.Loads) = q2 at *
  generalize decide (x.Grades = y.Grades) = q3 at *
  generalize x.Factor = F at *
  generalize y.Factor = F' at *
  generalize x.Over = O at *
  generalize y.Over = O' at *
  have t0 : (F == F') = decide (F = F') := rfl
  have t1 : (O == O') = decide (O = O') := rfl
  generalize decide (F = F') = q4 at *
  generalize decide (O = O') = q5 at *
  generalize x.Ends.length = nE at *
  generalize x.Loads.length = nL at *
  generalize x.Grades.length = nG at *
  generalize y.Ends.length = nE' at *
  generalize y.Loads.length = nL' at *
  generalize y.Grades.length = nG' at *
  obtain ⟨w0, hw0⟩ : ∃ w0, (w.alloc (.cells #[.slice AE nE cE, .slice AL nL cL, .slice AG nG cG, .int .i64 F, .int .i64 O] 36)).alloc (.cells #[.slice AE' nE' cE', .slice AL' nL' cL', .slice AG' nG' cG', .int .i64 F', .int .i64 O'] 36) = w0 := ⟨_, rfl⟩
  have PA := Lib.hid (show Pair w w0 #[.slice AE nE cE, .slice AL nL cL, .slice AG nG cG, .int .i64 F, .int .i64 O] #[.slice AE' nE' cE', .slice AL' nL' cL', .slice AG' nG' cG', .int .i64 F', .int .i64 O'] from
    ⟨by rw [← hw0]; exact (Box.new w _ _ rfl).alloc _, by rw [← hw0]; exact Box.new _ _ _ (by simp), by rw [← hw0]; exact (by repeat (first | exact Below.refl _ _ | assumption | refine Below.setCell ?_ (by first | (simp; done) | (simp; omega)) _ | refine belowDrewN ?_ _ | refine Below.drew ?_ | refine Below.alloc ?_ (by first | (simp; done) | (simp; omega)) _))⟩)
  have HW0 := Lib.hid hw0
  clear hw0
  have p0 := (show w0.cell? ⟨w.heap.size, 0, none⟩ = some (.slice AE nE cE) from PA.out.a.cell 0)
  have p0' := (show w0.cell? ⟨w.heap.size + 1, 0, none⟩ = some (.slice AE' nE' cE') from PA.out.b.cell 0)
  go_enter Try.func43, Try.ntmps43
  go_upto_region 1 with fail
  rw [HW0.out]
  go_wp2_with fail
  refine (H1.out _ PA.out.low).mono ?_
  rintro e w1 ⟨rfl, hb1⟩
  replace PA := Lib.hid (PA.out.under hb1)
  clear p0 p0' hb1 HW0 H1
  cases q1
  · go_wp2_with fail
    go_ret
    exact ⟨rfl, PA.out.low⟩
  have p1 := (show w1.cell? ⟨w.heap.size, 1, none⟩ = some (.slice AL nL cL) from PA.out.a.cell 1)
  have p1' := (show w1.cell? ⟨w.heap.size + 1, 1, none⟩ = some (.slice AL' nL' cL') from PA.out.b.cell 1)
  go_wp2_with fail
  refine (H2.out _ PA.out.low).mono ?_
  rintro e w2 ⟨rfl, hb2⟩
  replace PA := Lib.hid (PA.out.under hb2)
  clear p1 p1' hb2 H2
  cases q2
  · go_wp2_with fail
    go_ret
    exact ⟨rfl, PA.out.low⟩
  have p2 := (show w2.cell? ⟨w.heap.size, 2, none⟩ = some (.slice AG nG cG) from PA.out.a.cell 2)
  have p2' := (show w2.cell? ⟨w.heap.size + 1, 2, none⟩ = some (.slice AG' nG' cG') from PA.out.b.cell 2)
  go_wp2_with fail
  refine (H3.out _ PA.out.low).mono ?_
  rintro e w3 ⟨rfl, hb3⟩
  replace PA := Lib.hid (PA.out.under hb3)
  clear p2 p2' hb3 H3
  cases q3
  · go_wp2_with fail
    go_ret
    exact ⟨rfl, PA.out.low⟩
  have p3 := (show w3.cell? ⟨w.heap.size, 3, none⟩ = some (.int .i64 F) from PA.out.a.cell 3)
  have p3' := (show w3.cell? ⟨w.heap.size + 1, 3, none⟩ = some (.int .i64 F') from PA.out.b.cell 3)
  have p4 := (show w3.cell? ⟨w.heap.size, 4, none⟩ = some (.int .i64 O) from PA.out.a.cell 4)
  have p4' := (show w3.cell? ⟨w.heap.size + 1, 4, none⟩ = some (.int .i64 O') from PA.out.b.cell 4)
  cases q4
  · go_wp2_with fail
    go_ret
    exact ⟨rfl, PA.out.low⟩
  cases q5
  · go_wp2_with fail
    go_ret
    exact ⟨rfl, PA.out.low⟩
  go_wp2_with fail
  go_ret
  exact ⟨rfl, PA.out.low⟩

end Go.Proofs.Ytannipfohicpmaa
