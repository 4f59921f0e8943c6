/- Walks of the reference of layer 2: the value of a line at a place, second part. -/
import Derived.Test.YtannipfohicpmaaRef02c
namespace Go.Proofs.Ytannipfohicpmaa
open Go.RowKit Go.Shelf Mpl

theorem load_range {w : World} {g : Nat} {x y : Int} {t : Nat} (b : Box w g t #[.int .i64 x, .int .i64 y]) : (loadVar 66 ⟨g, 0, none⟩).run Try.prog w = .ok (.agg #[.int .i64 x, .int .i64 y]) w := by
  have q0 := b.cell 0
  have q1 := b.cell 1
  simp only [List.getElem?_toArray, List.getElem?_cons_zero, List.getElem?_cons_succ] at q0 q1
  simp [go_sem, q0, q1]

set_option maxHeartbeats 4000000 in
set_option maxRecDepth 100000 in
theorem ref02_value_ends (ks : List Knot) (b off c n : Nat) (x : Int) (w : World) (hb : b < w.heap.size) (hn : n ≤ 24) (hn0 : 0 < n)
    (hk : ∀ i, i < n → w.cell? ⟨b, off + i * 2, none⟩ = some (.int .i64 (kn ks i).At) ∧ w.cell? ⟨b, off + i * 2 + 1, none⟩ = some (.int .i64 (kn ks i).V))
    (V : Int) (hx : (x ≤ (kn ks 0).At ∧ V = (kn ks 0).V) ∨ ((kn ks 0).At < x ∧ (kn ks (n - 1)).At ≤ x ∧ V = (kn ks (n - 1)).V)) :
    Calls Try.prog 104 #[.agg #[.slice (some ⟨b, off, none⟩) n c], .int .i64 x] w fun e w' => e = .returned (.agg #[.int .i64 V, .int .i64 V]) ∧ Below w.heap.size w w' := by
  obtain ⟨a0, a1⟩ := hk 0 (by omega)
  obtain ⟨l0, l1⟩ := hk (n - 1) (by omega)
  simp only [Nat.zero_mul, Nat.add_zero] at a0 a1
  clear hk
  obtain ⟨wv, hwv⟩ : ∃ wv, ((w.alloc (.cells #[.slice (some ⟨b, off, none⟩) n c] 24)).alloc (.cells #[.int .i64 0, .int .i64 0] 66)) = wv := ⟨_, rfl⟩
  have b0 : Box wv w.heap.size 24 #[.slice (some ⟨b, off, none⟩) n c] := by rw [← hwv]; exact (Box.new w _ _ rfl).alloc _
  have b1 : Box wv (w.heap.size + 1) 66 #[.int .i64 0, .int .i64 0] := by rw [← hwv]; exact Box.new _ _ _ (by simp)
  have hB0 : Below w.heap.size w wv := by rw [← hwv]; exact (by repeat (first | exact Below.refl _ _ | assumption | refine Below.setCell ?_ (by first | (simp; done) | (simp; omega)) _ | refine belowDrewN ?_ _ | refine Below.drew ?_ | refine Below.alloc ?_ (by first | (simp; done) | (simp; omega)) _))
  have HWV := Lib.hid hwv
  clear hwv
  have HBB0 := Lib.hid hB0
  have q0 := b0.cell 0
  have u1 := b1.cell 0
  have u2 := b1.cell 1
  have u3 := b1.frozen 0
  have u4 := b1.frozen 1
  simp only [List.getElem?_toArray, List.getElem?_cons_zero, List.getElem?_cons_succ] at q0 u1 u2
  have e0 := oldCell hB0 hb a0
  have e1 := oldCell hB0 hb a1
  have e2 := oldCell hB0 hb l0
  have e3 := oldCell hB0 hb l1
  have hbw : b < wv.heap.size := by have := hB0.size; omega
  have hb0 := b0.lt
  have hb1 := b1.lt
  have H5 := Lib.hid (show Box ((wv.setCell ⟨w.heap.size + 1, 0, none⟩ (.int .i64 V)).setCell ⟨w.heap.size + 1, 1, none⟩ (.int .i64 V)) (w.heap.size + 1) 66 #[.int .i64 V, .int .i64 V] by simpa using (b1.set_ 0 (.int .i64 V)).set_ 1 (.int .i64 V))
  clear a0 a1 l0 l1 b0 b1 hB0
  generalize (kn ks 0).At = f0 at *
  generalize (kn ks 0).V = f1 at *
  generalize (kn ks (n - 1)).At = g0 at *
  generalize (kn ks (n - 1)).V = g1 at *
  have z1 : IntKind.i64.wrap ((n : Int) - 1) = (n : Int) - 1 := IntWalk.i64_in _ (by omega)
  have z2 : (0 : Int) ≤ (n : Int) - 1 := by omega
  have z3 : ((n : Int) - 1).toNat = n - 1 := by omega
  have z4 : (n : Int) - 1 < (n : Int) := by omega
  have z5 : (1 : Int) ≤ (n : Int) := by omega
  have z6 : 1 ≤ n := by omega
  rcases hx with ⟨hx, rfl⟩ | ⟨hx1, hx2, rfl⟩
  · have d1 : decide (x ≤ f0) = true := decide_eq_true hx
    go_enter Try.func104, Try.ntmps104
    go_wp2_with fail
    rw [HWV.out]
    go_region_held3 (fun w' => w'.cell? ⟨w.heap.size, 0, none⟩ = some (.slice (some ⟨b, off, none⟩) n c) ∧ w'.cell? ⟨b, off, none⟩ = some (.int .i64 f0) ∧ w'.cell? ⟨b, off + 1, none⟩ = some (.int .i64 V) ∧ w'.cell? ⟨b, off + (n - 1) * 2, none⟩ = some (.int .i64 g0) ∧ w'.cell? ⟨b, off + (n - 1) * 2 + 1, none⟩ = some (.int .i64 g1)) (go_keep) (first | fail)
    all_goals
      clear z1 z2 z3 z4 z5 z6
      go_wp2_with fail
      refine bodyPost_ret (results_cell1 rfl _ _ _ (w.heap.size + 1) (.agg #[.int .i64 V, .int .i64 V]) rfl (load_range ((H5.out.alloc _).alloc _).drew)) rfl ⟨rfl, ?_⟩
      exact (((HBB0.out.setCell (p := ⟨w.heap.size + 1, 0, none⟩) (by simp) _).setCell (p := ⟨w.heap.size + 1, 1, none⟩) (by simp) _).alloc (by have := HBB0.out.size; simp; omega) _).alloc (by have := HBB0.out.size; simp; omega) _ |>.drew
  · have d1 : decide (x ≤ f0) = false := decide_eq_false (by omega)
    have d2 : decide (g0 ≤ x) = true := decide_eq_true hx2
    go_enter Try.func104, Try.ntmps104
    go_wp2_with fail
    rw [HWV.out]
    go_region_held3 (fun w' => w'.cell? ⟨w.heap.size, 0, none⟩ = some (.slice (some ⟨b, off, none⟩) n c) ∧ w'.cell? ⟨b, off, none⟩ = some (.int .i64 f0) ∧ w'.cell? ⟨b, off + 1, none⟩ = some (.int .i64 f1) ∧ w'.cell? ⟨b, off + (n - 1) * 2, none⟩ = some (.int .i64 g0) ∧ w'.cell? ⟨b, off + (n - 1) * 2 + 1, none⟩ = some (.int .i64 V)) (go_keep) (first | fail)
    all_goals
      clear z1 z2 z3 z4 z5 z6
      go_wp2_with fail
      refine bodyPost_ret (results_cell1 rfl _ _ _ (w.heap.size + 1) (.agg #[.int .i64 V, .int .i64 V]) rfl (load_range ((H5.out.alloc _).alloc _).drew)) rfl ⟨rfl, ?_⟩
      exact (((HBB0.out.setCell (p := ⟨w.heap.size + 1, 0, none⟩) (by simp) _).setCell (p := ⟨w.heap.size + 1, 1, none⟩) (by simp) _).alloc (by have := HBB0.out.size; simp; omega) _).alloc (by have := HBB0.out.size; simp; omega) _ |>.drew

theorem ref02_value (ks : List Knot) (v0 : Value) (x : Int) (w : World) (hv : LineV w w.heap.size v0 ks) (hr : right ks = true) :
    Calls Try.prog 104 #[v0, .int .i64 x] w fun e w' => e = .returned (.agg #[.int .i64 (value ks x).Lo, .int .i64 (value ks x).Hi]) ∧ Below w.heap.size w w' := by
  obtain ⟨a, v, hg, ha, hvv, hav⟩ := right_good hr
  obtain ⟨A, c, rfl, hk⟩ := hv
  have hpos := hg.pos
  obtain ⟨b, off, rfl, hb, hc⟩ := hk.out hpos
  have hle := before_le x ks
  have hfew := hg.few
  by_cases h0 : before x ks = 0
  · rw [show value ks x = ⟨(kn ks 0).V, (kn ks 0).V⟩ by simp [value, h0]]
    have hx := before_ge x ks (by omega)
    rw [h0] at hx
    exact ref02_value_ends ks b off c ks.length x w hb hfew hpos hc _ (.inl ⟨hx, rfl⟩)
  have hf := before_lt x ks 0 (by omega)
  by_cases hn : before x ks = ks.length
  · rw [show value ks x = ⟨(kn ks (ks.length - 1)).V, (kn ks (ks.length - 1)).V⟩ by unfold value; rw [if_neg h0, if_pos hn]]
    have hx := before_lt x ks (ks.length - 1) (by omega)
    exact ref02_value_ends ks b off c ks.length x w hb hfew hpos hc _ (.inr ⟨hf, by omega, rfl⟩)
  have hvl : value ks x = between (kn ks (before x ks - 1)) (kn ks (before x ks)) x := by unfold value; rw [if_neg h0, if_neg hn]
  rw [hvl, between]
  dsimp only
  have hlt1 := hg.up (before x ks - 1) (by omega)
  rw [show before x ks - 1 + 1 = before x ks by omega] at hlt1
  have hlt2 := before_lt x ks (before x ks - 1) (by omega)
  have hge := before_ge x ks (by omega)
  have va := hg.v0 (before x ks - 1) (by omega)
  have vb := hg.v0 (before x ks) (by omega)
  have aa := hg.at0 (before x ks - 1) (by omega)
  have ab := hg.at0 (before x ks) (by omega)
  by_cases hl : (kn ks (ks.length - 1)).At ≤ x
  · have hm : before x ks = ks.length - 1 := by
      rcases Nat.lt_or_ge (before x ks) (ks.length - 1) with h | h
      · have := hg.lt h (by omega); omega
      · omega
    have hxe : (kn ks (before x ks)).At = x := by rw [hm] at hge ⊢; omega
    have hvv : ∀ ka kb : Knot, ka.At < kb.At → kb.At = x → ka.V + (kb.V - ka.V) * (x - ka.At) / (kb.At - ka.At) = kb.V ∧ ka.V - -((kb.V - ka.V) * (x - ka.At)) / (kb.At - ka.At) = kb.V := fun ka kb h1 h2 => by
      subst h2
      have e1 : (kb.V - ka.V) * (kb.At - ka.At) / (kb.At - ka.At) = kb.V - ka.V := Int.mul_ediv_cancel _ (by omega)
      have e2 : -((kb.V - ka.V) * (kb.At - ka.At)) / (kb.At - ka.At) = -(kb.V - ka.V) := by rw [← Int.neg_mul]; exact Int.mul_ediv_cancel _ (by omega)
      rw [e1, e2]
      omega
    obtain ⟨e1, e2⟩ := hvv _ _ hlt1 hxe
    rw [e1, e2, hm]
    exact ref02_value_ends ks b off c ks.length x w hb hfew hpos hc _ (.inr ⟨hf, hl, rfl⟩)
  · have hp := prod_small ((kn ks (before x ks)).V - (kn ks (before x ks - 1)).V) (x - (kn ks (before x ks - 1)).At) a v (by omega) (by omega) (by omega) (by omega) hav
    exact ref02_value_walk ks b off c ks.length (before x ks) x _ _ _ _ w hb hfew (by omega) (by omega) hc hf (by omega) (before_lt x ks) hge rfl rfl hlt1 hp.1 hp.2 va.1 (by omega) vb.1 (by omega) aa.1 (by omega) hlt2 hge

set_option maxHeartbeats 1000000 in
theorem ref02_At (ks : List Knot) (v0 : Value) (x : Int) (w : World) (hv : LineV w w.heap.size v0 ks) :
    Calls Try.prog 85 #[v0, .int .i64 x] w fun e w' => e = .returned (.agg #[.int .i64 (At ks x).Lo, .int .i64 (At ks x).Hi]) ∧ Below w.heap.size w w' := by
  have HV := Lib.hid hv
  obtain ⟨A, c, rfl, hk⟩ := hv
  clear hk
  have HR := Lib.hid (fun W (hW : Below w.heap.size w W) => ref02_right _ ks W (HV.out.below hW))
  have HVL := Lib.hid (fun h W (hW : Below w.heap.size w W) => ref02_value ks _ x W (HV.out.below hW) h)
  generalize ks.length = n at *
  obtain ⟨wv, hwv⟩ : ∃ wv, ((w.alloc (.cells #[.slice A n c] 24)).alloc (.cells #[.int .i64 0, .int .i64 0] 66)) = wv := ⟨_, rfl⟩
  have b0 : Box wv w.heap.size 24 #[.slice A n c] := by rw [← hwv]; exact (Box.new w _ _ rfl).alloc _
  have b1 : Box wv (w.heap.size + 1) 66 #[.int .i64 0, .int .i64 0] := by rw [← hwv]; exact Box.new _ _ _ (by simp)
  have hB0 : Below w.heap.size w wv := by rw [← hwv]; exact (by repeat (first | exact Below.refl _ _ | assumption | refine Below.setCell ?_ (by first | (simp; done) | (simp; omega)) _ | refine belowDrewN ?_ _ | refine Below.drew ?_ | refine Below.alloc ?_ (by first | (simp; done) | (simp; omega)) _))
  have HWV := Lib.hid hwv
  clear hwv
  cases hr : right ks
  · have hs := Lib.hid (show At ks x = ⟨0, 0⟩ by simp [At, hr])
    rw [hr] at HR
    clear HVL hr
    go_enter Try.func85, Try.ntmps85
    go_wp2_with fail
    rw [HWV.out]
    refine (HR.out _ hB0).mono ?_
    rintro e w1 ⟨rfl, hb1⟩
    have c1 := b1.under hb1
    have hB1 := hB0.trans (hb1.mono hB0.size)
    have q1 := c1.cell 0
    have q2 := c1.cell 1
    have q5 := c1.frozen 0
    have q6 := c1.frozen 1
    simp only [List.getElem?_toArray, List.getElem?_cons_zero, List.getElem?_cons_succ] at q1 q2
    go_wp2_with fail
    refine bodyPost_ret (v := .agg #[.int .i64 0, .int .i64 0]) (results_cell1 rfl _ _ _ (w.heap.size + 1) _ rfl (load_range (t := 66) ?_)) rfl ⟨by rw [hs.out], ?_⟩
    · simpa using (c1.set_ 0 (.int .i64 0)).set_ 1 (.int .i64 0)
    · exact (hB1.setCell (by simp) _).setCell (by simp) _
  · have hs := Lib.hid (show At ks x = value ks x by simp [At, hr])
    rw [hr] at HR
    replace HVL := Lib.hid (HVL.out hr)
    clear hr
    go_enter Try.func85, Try.ntmps85
    go_wp2_with fail
    rw [HWV.out]
    refine (HR.out _ hB0).mono ?_
    rintro e w1 ⟨rfl, hb1⟩
    have hB1 := hB0.trans (hb1.mono hB0.size)
    have q0 := (b0.under hb1).cell 0
    simp only [List.getElem?_toArray, List.getElem?_cons_zero] at q0
    go_wp2_with fail
    refine (HVL.out _ hB1).mono ?_
    rintro e w2 ⟨rfl, hb2⟩
    have c1 := (b1.under hb1).under hb2
    have hB2 := hB1.trans (hb2.mono hB1.size)
    have q1 := c1.cell 0
    have q2 := c1.cell 1
    have q5 := c1.frozen 0
    have q6 := c1.frozen 1
    simp only [List.getElem?_toArray, List.getElem?_cons_zero, List.getElem?_cons_succ] at q1 q2
    clear q0
    go_wp2_with fail
    refine bodyPost_ret (v := .agg #[.int .i64 (value ks x).Lo, .int .i64 (value ks x).Hi]) (results_cell1 rfl _ _ _ (w.heap.size + 1) _ rfl (load_range (t := 66) ?_)) rfl ⟨by rw [hs.out], ?_⟩
    · simpa using (c1.set_ 0 (.int .i64 (value ks x).Lo)).set_ 1 (.int .i64 (value ks x).Hi)
    · exact (hB2.setCell (by simp) _).setCell (by simp) _

end Go.Proofs.Ytannipfohicpmaa
