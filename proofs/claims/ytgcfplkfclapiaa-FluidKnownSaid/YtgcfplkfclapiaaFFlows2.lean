/- Walks of the package fluid: does mud flow, second part. -/
import Derived.Test.YtgcfplkfclapiaaFFlows
namespace Mpl
theorem prodN_le : ∀ (l : List Int) (a : Nat), l.foldl (fun p x => p * x.toNat) a = a * prodN l := by
  intro l
  induction l with
  | nil => intro a; simp [prodN]
  | cons x l ih => intro a; rw [prodN, List.foldl_cons, List.foldl_cons, ih, ih (1 * x.toNat), Nat.one_mul, Nat.mul_assoc]
theorem prod4 {a b c d : Int} (ha : 0 ≤ a) (hb : 0 ≤ b) (hc : 0 ≤ c) (hd : 0 ≤ d) : ((prodN [a, b, c, d] : Nat) : Int) = a * b * c * d := by
  simp only [prodN, List.foldl_cons, List.foldl_nil, Nat.one_mul, Int.natCast_mul, Int.toNat_of_nonneg, ha, hb, hc, hd]
theorem prod5 {a b c d e : Int} (ha : 0 ≤ a) (hb : 0 ≤ b) (hc : 0 ≤ c) (hd : 0 ≤ d) (he : 0 ≤ e) : ((prodN [a, b, c, d, e] : Nat) : Int) = a * b * c * d * e := by
  simp only [prodN, List.foldl_cons, List.foldl_nil, Nat.one_mul, Int.natCast_mul, Int.toNat_of_nonneg, ha, hb, hc, hd, he]
theorem prod6 {a b c d e f : Int} (ha : 0 ≤ a) (hb : 0 ≤ b) (hc : 0 ≤ c) (hd : 0 ≤ d) (he : 0 ≤ e) (hf : 0 ≤ f) : ((prodN [a, b, c, d, e, f] : Nat) : Int) = a * b * c * d * e * f := by
  simp only [prodN, List.foldl_cons, List.foldl_nil, Nat.one_mul, Int.natCast_mul, Int.toNat_of_nonneg, ha, hb, hc, hd, he, hf]
theorem mul_bd {a b : Int} {m n : Int} (ha : 0 ≤ a) (hb : 0 ≤ b) (h1 : a ≤ m) (h2 : b ≤ n) : 0 ≤ a * b ∧ a * b ≤ m * n :=
  ⟨Int.mul_nonneg ha hb, Int.mul_le_mul h1 h2 hb (Int.le_trans ha h1)⟩
theorem bd4 {a b c d m n o p : Int} (ha : 0 ≤ a ∧ a ≤ m) (hb : 0 ≤ b ∧ b ≤ n) (hc : 0 ≤ c ∧ c ≤ o) (hd : 0 ≤ d ∧ d ≤ p) : 0 ≤ a * b * c * d ∧ a * b * c * d ≤ m * n * o * p := by
  obtain ⟨h1, h2⟩ := mul_bd ha.1 hb.1 ha.2 hb.2
  obtain ⟨h3, h4⟩ := mul_bd h1 hc.1 h2 hc.2
  exact mul_bd h3 hd.1 h4 hd.2
end Mpl
namespace Go.Proofs.Ytgcfplkfclapiaa
open Go.RowKit Go.Shelf Mpl

theorem ret_b {a b : Bool} (h : a = b) : Ending.returned (.bool a) = .returned (.bool b) := by rw [h]
theorem pick_in {l : List Int} {m : Int} (h : ∀ x ∈ l, 0 ≤ x ∧ x ≤ m) : ∀ i, i < l.length → 0 ≤ pick l i ∧ pick l i ≤ m := fun i hi => by
  have : pick l i = l[i] := by simp [pick, hi]
  rw [this]
  exact h _ (List.getElem_mem hi)

set_option maxHeartbeats 1000000 in
set_option maxRecDepth 100000 in
/-- fluid.flows: does at least so much flow -/
theorem fluid_flows (s : Seg) (m : Mud) (g flow : Int) (w : World) (hs : GoodSeg s) (hm : MudIn m flow) (hg0 : 0 ≤ g) (hg1 : g ≤ 20000) :
    Calls Try.prog 79 #[segV s, mudV m, .int .i64 g, .int .i64 flow] w fun e w' => e = .returned (.bool (flowsG s m g flow)) ∧ Below w.heap.size w w' := by
  obtain ⟨y0, y1, v0, v1, f0, f1⟩ := hm
  have a0 := hs.area0
  have a1 := hs.area1
  have p0 := hs.gap0
  have p1 := hs.gap1
  have hgt := mul_bd hg0 (show 0 ≤ s.Gap by omega) hg1 p1
  obtain ⟨t0, t1⟩ := hgt
  have hw : IntKind.i64.wrap (g * s.Gap) = g * s.Gap := IntWalk.i64_in _ (by omega)
  have hfl : Hid (flowsG s m g flow = flowsG s m g flow) := rfl
  unfold segV mudV
  by_cases hf : flow = 0
  · subst hf
    have hr : flowsG s m g 0 = true := by simp [flowsG]
    rw [hr]
    clear hfl hw t0 t1
    go_enter Try.func79, Try.ntmps79
    go_wp2_with fail
    go_ret
    exact ⟨rfl, (by repeat (first | exact Below.refl _ _ | assumption | refine Below.setCell ?_ (by first | (simp; done) | (simp; omega)) _ | refine belowDrewN ?_ _ | refine Below.drew ?_ | refine Below.alloc ?_ (by first | (simp; done) | (simp; omega)) _))⟩
  by_cases hty : g * s.Gap ≤ m.Yield
  · have hr : flowsG s m g flow = false := by simp [flowsG, hf, hty]
    rw [hr]
    have hf0 : (flow == 0) = false := by simpa using hf
    have hd : decide (g * s.Gap ≤ m.Yield) = true := decide_eq_true hty
    obtain ⟨t, ht⟩ : ∃ t, g * s.Gap = t := ⟨_, rfl⟩
    have hw' : IntKind.i64.wrap (g * s.Gap) = t := by rw [hw, ht]
    rw [ht] at hd
    clear ht hw t0 t1 hr
    have bs : Box ((w.alloc (.cells #[.int .i64 s.Long, .int .i64 s.Rise, .int .i64 s.Area, .int .i64 s.Gap] 29)).alloc (.cells #[.int .i64 m.Yield, .int .i64 m.Visc] 47)) w.heap.size 29 #[.int .i64 s.Long, .int .i64 s.Rise, .int .i64 s.Area, .int .i64 s.Gap] := (Box.new w _ _ rfl).alloc _
    have bm : Box ((w.alloc (.cells #[.int .i64 s.Long, .int .i64 s.Rise, .int .i64 s.Area, .int .i64 s.Gap] 29)).alloc (.cells #[.int .i64 m.Yield, .int .i64 m.Visc] 47)) (w.heap.size + 1) 47 #[.int .i64 m.Yield, .int .i64 m.Visc] := Box.new _ _ _ (by simp)
    obtain ⟨q2, q3⟩ := seg_box1 bs
    obtain ⟨q4, q5⟩ := mud_box bm
    clear bs bm hf hty hs hfl
    go_enter Try.func79, Try.ntmps79
    go_upto_region 3 with fail
    go_region
    go_wp2_with fail
    go_ret
    exact ⟨rfl, (by repeat (first | exact Below.refl _ _ | assumption | refine Below.setCell ?_ (by first | (simp; done) | (simp; omega)) _ | refine belowDrewN ?_ _ | refine Below.drew ?_ | refine Below.alloc ?_ (by first | (simp; done) | (simp; omega)) _))⟩
  have hy : m.Yield < g * s.Gap := by omega
  have hC : flowsG s m g flow = decide (3 * m.Yield * (g * s.Gap) * (g * s.Gap) * s.Gap * s.Area + flow * m.Visc * (g * s.Gap) * (g * s.Gap) ≤ 2 * (g * s.Gap) * (g * s.Gap) * (g * s.Gap) * s.Gap * s.Area + m.Yield * m.Yield * m.Yield * s.Gap * s.Area) := by
    rw [flowsG, if_neg hf, if_neg hty]
  rw [hC]
  clear hC hfl hty
  obtain ⟨t, ht⟩ : ∃ t, g * s.Gap = t := ⟨_, rfl⟩
  have hw' : IntKind.i64.wrap (g * s.Gap) = t := by rw [hw, ht]
  rw [ht] at hy t0 t1
  rw [ht]
  clear ht hw
  generalize s.Gap = ga at *
  generalize s.Area = ar at *
  generalize m.Yield = y at *
  generalize m.Visc = vi at *
  have gA : (0 : Int) ≤ ga ∧ ga ≤ 200 := ⟨by omega, p1⟩
  have gR : (0 : Int) ≤ ar ∧ ar ≤ 5000 := ⟨by omega, a1⟩
  have gT : (0 : Int) ≤ t ∧ t ≤ 4000000 := ⟨t0, by omega⟩
  have gY : (0 : Int) ≤ y ∧ y ≤ 1000000 := ⟨y0, y1⟩
  have gV : (0 : Int) ≤ vi ∧ vi ≤ 1000000 := ⟨by omega, v1⟩
  have gF : (0 : Int) ≤ flow ∧ flow ≤ 1000000 := ⟨f0, f1⟩
  have g2 : (0 : Int) ≤ 2 ∧ (2 : Int) ≤ 2 := by omega
  have g3 : (0 : Int) ≤ 3 ∧ (3 : Int) ≤ 3 := by omega
  have eA := prod6 g2.1 gT.1 gT.1 gT.1 gA.1 gR.1
  have eB := prod5 gY.1 gY.1 gY.1 gA.1 gR.1
  have eC := prod6 g3.1 gY.1 gT.1 gT.1 gA.1 gR.1
  have eD := prod4 gF.1 gV.1 gT.1 gT.1
  have bA := mul_bd (mul_bd (bd4 g2 gT gT gT).1 gA.1 (bd4 g2 gT gT gT).2 gA.2).1 gR.1 (mul_bd (bd4 g2 gT gT gT).1 gA.1 (bd4 g2 gT gT gT).2 gA.2).2 gR.2
  have bB := mul_bd (bd4 gY gY gY gA).1 gR.1 (bd4 gY gY gY gA).2 gR.2
  have bC := mul_bd (mul_bd (bd4 g3 gY gT gT).1 gA.1 (bd4 g3 gY gT gT).2 gA.2).1 gR.1 (mul_bd (bd4 g3 gY gT gT).1 gA.1 (bd4 g3 gY gT gT).2 gA.2).2 gR.2
  have bD := bd4 gF gV gT gT
  rw [← eA] at bA
  rw [← eB] at bB
  rw [← eC] at bC
  rw [← eD] at bD
  rw [← eA, ← eB, ← eC, ← eD]
  have iA : ∀ x ∈ [2, t, t, t, ga, ar], (0 : Int) ≤ x ∧ x ≤ 4611686018427387904 := by simp; omega
  have iB : ∀ x ∈ [y, y, y, ga, ar], (0 : Int) ≤ x ∧ x ≤ 4611686018427387904 := by simp; omega
  have iC : ∀ x ∈ [3, y, t, t, ga, ar], (0 : Int) ≤ x ∧ x ≤ 4611686018427387904 := by simp; omega
  have iD : ∀ x ∈ [flow, vi, t, t], (0 : Int) ≤ x ∧ x ≤ 4611686018427387904 := by simp; omega
  clear eA eB eC eD
  generalize hA : prodN [2, t, t, t, ga, ar] = A at *
  generalize hB : prodN [y, y, y, ga, ar] = B at *
  generalize hCC : prodN [3, y, t, t, ga, ar] = C at *
  generalize hD : prodN [flow, vi, t, t] = D at *
  have hr : decide ((C : Int) + (D : Int) ≤ (A : Int) + (B : Int)) = decide (C + D ≤ A + B) := by
    rw [← Int.natCast_add, ← Int.natCast_add]
    exact decide_eq_decide.2 Int.ofNat_le
  rw [hr]
  refine flows_walk s.Long s.Rise ar ga y vi g flow t w A B C D ((A + B) / 18446744073709551616 : Nat) ((A + B) % 18446744073709551616 : Nat) _ hw' hf hy ?_ ?_ ?_ ?_ ?_ ?_ ?_
  · exact fun W p b => prod_call _ 6 rfl A hA (pick_in iA) (by omega) (by omega) W p b
  · exact fun W p b => prod_call _ 5 rfl B hB (pick_in iB) (by omega) (by omega) W p b
  · exact fun W p b => prod_call _ 6 rfl C hCC (pick_in iC) (by omega) (by omega) W p b
  · exact fun W p b => prod_call _ 4 rfl D hD (pick_in iD) (by omega) (by omega) W p b
  · exact fun W => wide_plus A B W (by omega)
  · exact fun W => wide_plus C D W (by omega)
  · exact fun W => wide_least (A + B) (C + D) W (by omega) (by omega)

set_option maxHeartbeats 1000000 in
set_option maxRecDepth 100000 in
theorem fluid_possible (s : Seg) (m : Mud) (flow : Int) (w : World) :
    Calls Try.prog 80 #[segV s, mudV m, .int .i64 flow] w fun e w' => e = .returned (.bool (possible s m flow)) ∧ Below w.heap.size w w' := by
  have hp : Hid (possible s m flow = (goodSeg s && within m.Yield 0 1000000 && within m.Visc 1 1000000 && within flow 0 1000000)) := rfl
  have HSG := Lib.hid (fun W => fluid_segment s W)
  rw [hp.out]
  clear hp
  generalize goodSeg s = r at *
  unfold segV mudV at *
  obtain ⟨w0, hw0⟩ : ∃ w0, (w.alloc (.cells #[.int .i64 s.Long, .int .i64 s.Rise, .int .i64 s.Area, .int .i64 s.Gap] 29)).alloc (.cells #[.int .i64 m.Yield, .int .i64 m.Visc] 47) = w0 := ⟨_, rfl⟩
  have bs : Box w0 w.heap.size 29 #[.int .i64 s.Long, .int .i64 s.Rise, .int .i64 s.Area, .int .i64 s.Gap] := by rw [← hw0]; exact (Box.new w _ _ rfl).alloc _
  have bm : Box w0 (w.heap.size + 1) 47 #[.int .i64 m.Yield, .int .i64 m.Visc] := by rw [← hw0]; exact Box.new _ _ _ (by simp)
  have hB0 : Below w.heap.size w w0 := by rw [← hw0]; exact (by repeat (first | exact Below.refl _ _ | assumption | refine Below.setCell ?_ (by first | (simp; done) | (simp; omega)) _ | refine belowDrewN ?_ _ | refine Below.drew ?_ | refine Below.alloc ?_ (by first | (simp; done) | (simp; omega)) _))
  have HW0 := Lib.hid hw0
  have BM := Lib.hid bm
  have HB0 := Lib.hid hB0
  have hl : (loadVar 29 ⟨w.heap.size, 0, none⟩).run Try.prog w0 = .ok (.agg #[.int .i64 s.Long, .int .i64 s.Rise, .int .i64 s.Area, .int .i64 s.Gap]) w0 := by
    have c0 := bs.cell 0
    have c1 := bs.cell 1
    have c2 := bs.cell 2
    have c3 := bs.cell 3
    simp only [List.getElem?_toArray, List.getElem?_cons_zero, List.getElem?_cons_succ] at c0 c1 c2 c3
    simp [go_sem, c0, c1, c2, c3]
  obtain ⟨c0, c1, c2, c3⟩ : w0.cell? ⟨w.heap.size, 0, none⟩ = some (.int .i64 s.Long) ∧ w0.cell? ⟨w.heap.size, 1, none⟩ = some (.int .i64 s.Rise) ∧ w0.cell? ⟨w.heap.size, 2, none⟩ = some (.int .i64 s.Area) ∧ w0.cell? ⟨w.heap.size, 3, none⟩ = some (.int .i64 s.Gap) := ⟨bs.cell 0, bs.cell 1, bs.cell 2, bs.cell 3⟩
  clear hw0 bs bm hB0 hl
  go_enter Try.func80, Try.ntmps80
  go_wp2_with fail
  rw [HW0.out]
  go_wp2_with fail
  refine (HSG.out _).mono ?_
  rintro e w1 ⟨rfl, hb1⟩
  obtain ⟨q4, q5⟩ := mud_box (BM.out.under hb1)
  have HB1 := Lib.hid (HB0.out.trans (hb1.mono HB0.out.size))
  clear hb1
  cases r
  · go_wp2_with fail
    go_ret
    exact ⟨rfl, HB1.out⟩
  cases h1 : within m.Yield 0 1000000
  · go_wp2_with (go_at_call 62; refine (fluid_within _ _ _ _).mono ?_; rintro e w' ⟨rfl, rfl⟩; try rw [h1])
    go_ret
    exact ⟨ret_b (by simp [h1]), HB1.out⟩
  cases h2 : within m.Visc 1 1000000
  · go_wp2_with (go_at_call 62; refine (fluid_within _ _ _ _).mono ?_; rintro e w' ⟨rfl, rfl⟩; first | rw [h1] | rw [h2])
    go_ret
    exact ⟨ret_b (by simp [h1, h2]), HB1.out⟩
  go_wp2_with (go_at_call 62; refine (fluid_within _ _ _ _).mono ?_; rintro e w' ⟨rfl, rfl⟩; first | rw [h1] | rw [h2] | skip)
  go_ret
  exact ⟨ret_b (by simp [h1, h2]), HB1.out⟩

theorem load_agg4 {w : World} {g t : Nat} {a b c d : Value} (h : Box w g t #[a, b, c, d]) : w.cell? ⟨g, 0, none⟩ = some a ∧ w.cell? ⟨g, 1, none⟩ = some b ∧ w.cell? ⟨g, 2, none⟩ = some c ∧ w.cell? ⟨g, 3, none⟩ = some d := ⟨h.cell 0, h.cell 1, h.cell 2, h.cell 3⟩

set_option maxHeartbeats 1000000 in
set_option maxRecDepth 100000 in
theorem fluid_Flows (s : Seg) (m : Mud) (g flow : Int) (w : World) :
    Calls Try.prog 38 #[segV s, mudV m, .int .i64 g, .int .i64 flow] w fun e w' => e = .returned (.bool (flows s m g flow)) ∧ Below w.heap.size w w' := by
  have HP := Lib.hid (fun W => fluid_possible s m flow W)
  have HF := Lib.hid (fun (h1 : possible s m flow = true) (h0 : 0 ≤ g) (h2 : g ≤ 20000) W => fluid_flows s m g flow W ((possible_iff s m flow).1 h1).1.1 ((possible_iff s m flow).1 h1).2 h0 h2)
  have hd : Hid (flows s m g flow = (possible s m flow && within g 0 20000 && flowsG s m g flow)) := rfl
  rw [hd.out]
  clear hd
  unfold segV mudV at *
  obtain ⟨w0, hw0⟩ : ∃ w0, (w.alloc (.cells #[.int .i64 s.Long, .int .i64 s.Rise, .int .i64 s.Area, .int .i64 s.Gap] 29)).alloc (.cells #[.int .i64 m.Yield, .int .i64 m.Visc] 47) = w0 := ⟨_, rfl⟩
  have bs : Box w0 w.heap.size 29 #[.int .i64 s.Long, .int .i64 s.Rise, .int .i64 s.Area, .int .i64 s.Gap] := by rw [← hw0]; exact (Box.new w _ _ rfl).alloc _
  have bm : Box w0 (w.heap.size + 1) 47 #[.int .i64 m.Yield, .int .i64 m.Visc] := by rw [← hw0]; exact Box.new _ _ _ (by simp)
  have hB0 : Below w.heap.size w w0 := by rw [← hw0]; exact (by repeat (first | exact Below.refl _ _ | assumption | refine Below.setCell ?_ (by first | (simp; done) | (simp; omega)) _ | refine belowDrewN ?_ _ | refine Below.drew ?_ | refine Below.alloc ?_ (by first | (simp; done) | (simp; omega)) _))
  have HW0 := Lib.hid hw0
  have BM := Lib.hid bm
  have BS := Lib.hid bs
  have HB0 := Lib.hid hB0
  obtain ⟨c0, c1, c2, c3⟩ := load_agg4 bs
  obtain ⟨q4, q5⟩ := mud_box bm
  clear hw0 bs bm hB0
  go_enter Try.func38, Try.ntmps38
  go_wp2_with fail
  rw [HW0.out]
  go_wp2_with fail
  refine (HP.out _).mono ?_
  rintro e w1 ⟨rfl, hb1⟩
  have B1 := BS.out.under hb1
  have B2 := BM.out.under hb1
  have HB1 := Lib.hid (HB0.out.trans (hb1.mono HB0.out.size))
  clear hb1 c0 c1 c2 c3 q4 q5
  obtain ⟨c0, c1, c2, c3⟩ := load_agg4 B1
  obtain ⟨q4, q5⟩ := mud_box B2
  clear B1 B2 BS BM HP
  cases r : possible s m flow
  · go_wp2_with fail
    go_ret
    exact ⟨ret_b (by simp [r]), HB1.out⟩
  cases h1 : within g 0 20000
  · go_wp2_with (go_at_call 62; refine (fluid_within _ _ _ _).mono ?_; rintro e w' ⟨rfl, rfl⟩; rw [h1])
    go_ret
    exact ⟨ret_b (by simp [h1]), HB1.out⟩
  have hg : 0 ≤ g ∧ g ≤ 20000 := by simpa [within] using h1
  have HF2 := Lib.hid (fun W => HF.out r hg.1 hg.2 W)
  clear HF hg
  go_wp2_with (go_at_call 62; refine (fluid_within _ _ _ _).mono ?_; rintro e w' ⟨rfl, rfl⟩; rw [h1])
  refine (HF2.out _).mono ?_
  rintro e w2 ⟨rfl, hb2⟩
  go_wp2_with fail
  go_ret
  exact ⟨ret_b (by simp [r, h1]), HB1.out.trans (hb2.mono HB1.out.size)⟩

end Go.Proofs.Ytgcfplkfclapiaa
