/- The law CasingPulls, walked. -/
import Derived.Test.YtannipfohicpmaaKitJob
namespace Go.Proofs.Ytannipfohicpmaa
open Go.RowKit Go.Shelf Mpl

theorem pullOf_step {j : Job} {l : List Int} (h : Chosen j l) {i : Nat} (hi : i < l.length) : pullOf j l i = pullOf j l (i + 1) + weightOf j l i ∧ 0 ≤ weightOf j l i := by
  refine ⟨?_, (h.weight hi).1⟩
  unfold pullOf
  rw [show l.length - i = (l.length - (i + 1)) + 1 by omega, sumFrom]
  omega
theorem pullOf_over {j : Job} {l : List Int} (h : Chosen j l) (i : Nat) (hi : i ≤ l.length) : j.Over ≤ pullOf j l i := by
  unfold pullOf
  have := sumFrom_bounds (weightOf j l) i (l.length - i) 1099511627776 (fun k hk hk2 => h.weight (by omega))
  omega
theorem pullOf_top {j : Job} {l : List Int} (h : Chosen j l) (i : Nat) (hi : i ≤ l.length) : pullOf j l i ≤ 6597069766656 := by
  unfold pullOf
  have := sumFrom_bounds (weightOf j l) i (l.length - i) 1099511627776 (fun k hk hk2 => h.weight (by omega))
  have h1 := h.over
  have h2 := h.few
  have h3 := h.same
  have h4 : ((l.length - i : Nat) : Int) ≤ 5 := by omega
  have h5 : ((l.length - i : Nat) : Int) * 1099511627776 ≤ 5 * 1099511627776 := Int.mul_le_mul_of_nonneg_right h4 (by omega)
  omega

theorem isChoice_of {j : Job} {l : List Int} (h1 : checkJob j = 0) (h2 : l.length = j.Ends.length) (h3 : ∀ i, i < l.length → 0 ≤ pick l i ∧ pick l i < j.Grades.length) : isChoice j l = true := by
  simp only [isChoice, Bool.and_eq_true, decide_eq_true_eq, Bool.not_eq_true', List.any_eq_false]
  refine ⟨⟨h1, h2⟩, fun x hx => ?_⟩
  obtain ⟨i, hi, rfl⟩ := List.getElem_of_mem hx
  have := h3 i hi
  rw [pick_get l i hi] at this
  omega
theorem pulls_of {j : Job} {l : List Int} (h : isChoice j l = true) : pullsOf j l = (List.range l.length).map (pullOf j l) := by rw [pullsOf, if_pos h]
theorem pick_pulls {j : Job} {l : List Int} (h : isChoice j l = true) (i : Nat) (hi : i < l.length) : pick (pullsOf j l) i = pullOf j l i := by
  rw [pulls_of h]
  simp [pick, hi]
theorem pulls_len {j : Job} {l : List Int} (h : isChoice j l = true) : (pullsOf j l).length = l.length := by rw [pulls_of h]; simp

/-- grades chosen so far -/
def GradesSo (l : List Int) (n : Nat) : Prop := ∀ i, i < l.length → 0 ≤ pick l i ∧ pick l i < (n : Int)
theorem GradesSo.nil (n : Nat) : GradesSo [] n := fun i hi => absurd hi (by simp)
theorem GradesSo.snoc {l : List Int} {n : Nat} {x : Int} (h : GradesSo l n) (h0 : 0 ≤ x) (h1 : x < (n : Int)) : GradesSo (l ++ [x]) n := fun i hi => by
  rcases Nat.lt_or_ge i l.length with h2 | h2
  · rw [pick_snoc_lt l x i h2]; exact h i h2
  · obtain rfl : i = l.length := by simp at hi; omega
    rw [pick_snoc_last]; exact ⟨h0, h1⟩

theorem info_int : (Try.prog.info? 3).map (fun i => (i.zero, i.size, i.bytes)) = some (some (.int .i64 0), 1, 8) := by kernel_rfl

theorem wrap_in (n : Int) : inI64 (wrap64 n) := by
  unfold inI64 wrap64
  omega

set_option maxHeartbeats 8000000 in
set_option maxRecDepth 100000 in
theorem walk_CasingPulls (x : Sheet) (v0 : Value) (n : Int) (w : World) (hv : SheetV w w.heap.size v0 x) (hin : SheetIn x) (_inn : inI64 n) :
    Calls Try.prog 5 #[v0, .int .i64 n] w fun e w' => e = .returned (.bool true) ∧ Below w.heap.size w w' := by
  have HJ := Lib.hid (fun W (hW : Below w.heap.size w W) => kit_Job x v0 W (hv.up hW hW.size) hin)
  obtain ⟨AE, cE, AL, cL, AG, cG, rfl, _, _, _⟩ := hv
  have HB0 := Lib.hid ((Below.refl w.heap.size w).alloc (Nat.le_refl _) (.cells #[.slice AE x.Ends.length cE, .slice AL x.Loads.length cL, .slice AG x.Grades.length cG, .int .i64 x.Factor, .int .i64 x.Over] 48))
  clear hin
  generalize x.Ends.length = nE0 at *
  generalize x.Loads.length = nL0 at *
  generalize x.Grades.length = nG0 at *
  go_enter Try.func5, Try.ntmps5
  go_wp2_with fail
  refine (HJ.out _ HB0.out).mono ?_
  rintro e w1 ⟨⟨v, j, rfl, hjv, hmade⟩, hb1⟩
  have hB1 := HB0.out.trans (hb1.mono HB0.out.size)
  have HJV := Lib.hid hjv
  obtain ⟨aE, eE, aL, eL, aG, eG, rfl, _, _, _, _⟩ := hjv
  have G := Lib.hid (checkJob_good hmade.ok)
  have hn1 := hmade.ends
  have hn2 := G.out.ends.pos
  have hg1 := hmade.grades
  have hg2 := G.out.gpos
  have HM := Lib.hid hmade
  clear hb1 hmade HJ HB0
  have HPU := Lib.hid (fun l A c W (hW : Below w1.heap.size w1 W) (hl : Ints W W.heap.size A l) (hlen : l.length = j.Ends.length) => casing_Pulls j l _ A c W (HJV.out.below hW) hl (by omega))
  have HCH := Lib.hid (fun l (h2 : l.length = j.Ends.length) h3 => isChoice_of (j := j) (l := l) HM.out.ok h2 h3)
  generalize hnE : j.Ends.length = nE at *
  generalize j.Loads.length = nL at *
  generalize hnG : j.Grades.length = nG at *
  have HNE := Lib.hid hnE
  have HNG := Lib.hid hnG
  clear hnE hnG
  obtain ⟨w2, hw2⟩ : ∃ w2, w1.alloc (.cells #[.slice aE nE eE, .slice aL nL eL, .slice aG nG eG, .int .i64 j.Factor, .int .i64 j.Over] 36) = w2 := ⟨_, rfl⟩
  have b0 : Box w2 w1.heap.size 36 #[.slice aE nE eE, .slice aL nL eL, .slice aG nG eG, .int .i64 j.Factor, .int .i64 j.Over] := by rw [← hw2]; exact Box.new _ _ _ rfl
  have hB2 : Below w1.heap.size w1 w2 := by rw [← hw2]; exact (by repeat (first | exact Below.refl _ _ | assumption | refine Below.setCell ?_ (by first | (simp; done) | (simp; omega)) _ | refine belowDrewN ?_ _ | refine Below.drew ?_ | refine Below.alloc ?_ (by first | (simp; done) | (simp; omega)) _))
  have HW2 := Lib.hid hw2
  have Hb0 := Lib.hid b0
  have HB2 := Lib.hid hB2
  have HB1 := Lib.hid hB1
  clear hw2 b0 hB2 hB1
  obtain ⟨i0, hi0, hz0, hz1, hz2⟩ := info_parts info_int
  go_wp2_with fail
  rw [HW2.out]
  go_loopw [6, 7] (fun s6 s7 wr => ∃ (k : Nat) (l : List Int), k ≤ nE ∧ s7 = .int .i64 k ∧ Hid (l.length = k ∧ GradesSo l nG) ∧ Hid (wr.ownsRow w2.heap.size 3 1 s6 k (l.map (Value.int .i64))) ∧ Hid (Below w2.heap.size w2 wr)) (fun _ s7 _ => nE - (intOf s7).toNat)
  case atStart => exact ⟨0, [], Nat.zero_le _, rfl, ⟨rfl, GradesSo.nil _⟩, World.ownsRow_nil _ _ _ _, Below.refl _ _⟩
  case round =>
    obtain ⟨k, l, hk, rfl, hl, hown, BW⟩ := hrel
    have hsw := BW.out.size
    have q0 := (Hb0.out.under BW.out).cell 0
    have q2 := (Hb0.out.under BW.out).cell 2
    simp only [List.getElem?_toArray, List.getElem?_cons_zero, List.getElem?_cons_succ] at q0 q2
    by_cases hlt : k < nE
    · have HMO := Lib.hid (fun W => kit_Mod (wrap64 (n + (k : Int) % 2)) (nG : Int) W (wrap_in _) (by omega) (by omega))
      have hm0 := Int.emod_nonneg (wrap64 (n + (k : Int) % 2)) (show (nG : Int) ≠ 0 by omega)
      have hm1 := Int.emod_lt_of_pos (wrap64 (n + (k : Int) % 2)) (show (0 : Int) < (nG : Int) by omega)
      generalize wrap64 (n + (k : Int) % 2) % (nG : Int) = g at *
      go_wp2_with fail
      refine (HMO.out _).mono ?_
      rintro e w' ⟨rfl, rfl⟩
      go_wp2_with (at_builtin; refine wpList_append_own _ rfl _ _ 37 rfl w2.heap.size 3 i0 (.int .i64 0) 1 8 Try.underlying37 hi0 hz0 hz1 hz2 rfl (by decide) _ _ _ rfl (hown.out.alloc _) ⟨wr.heap.size, 0, none⟩ 1 1 [.int .i64 g] rfl rfl ?_ ?_ ?_ ?_ ?_ ?_)
      · exact cells_new wr [.int .i64 g] 3
      · simp [Value.oneCell']
      · unfold maxLen; omega
      · omega
      · simp; omega
      intro v' w3 hown3 hg3 _
      have HO3 := Lib.hid hown3
      have HB3 := Lib.hid (below_grown (BW.out.alloc hsw _) (hown.out.alloc _) hg3 (by simp; omega))
      clear hown3 hg3 q0 q2
      go_wp2_with fail
      go_roundw
      case rel => exact ⟨k + 1, l ++ [g], hlt, by go_num, ⟨by rw [List.length_append, hl.out.1]; rfl, hl.out.2.snoc hm0 hm1⟩, by unfold Hid; rw [List.map_append]; simpa using HO3.out, HB3.out⟩
      case measure => simp [intOf]; omega
    · obtain rfl : k = nE := by omega
      obtain ⟨A', c', rfl, _, hI⟩ := Ints.own hown.out
      have hch := HCH.out l hl.out.1 hl.out.2
      have hC := isChoice_chosen hch
      have HI := Lib.hid hI
      have q1 := (Hb0.out.under BW.out).cell 1
      have q3 := (Hb0.out.under BW.out).cell 3
      have q4 := (Hb0.out.under BW.out).cell 4
      simp only [List.getElem?_toArray, List.getElem?_cons_zero, List.getElem?_cons_succ] at q1 q3 q4
      have B3 := Lib.hid (HB2.out.trans (BW.out.mono HB2.out.size))
      have HLEN := Lib.hid hl.out.1
      have HCC := Lib.hid hC
      have HCHO := Lib.hid hch
      have hpl := pulls_len hch
      have HPP := Lib.hid (fun t (ht : t < l.length) => pick_pulls hch t ht)
      clear hI hC hch hown hlt hk
      rw [HLEN.out] at hpl
      have HPU2 := Lib.hid (HPU.out l A' c' wr B3.out HI.out HLEN.out)
      rw [HLEN.out, hpl] at HPU2
      rw [HLEN.out]
      have HPL := Lib.hid hpl
      clear hpl hl HPU HCH
      generalize pullsOf j l = ps at *
      have hne : ((k : Int) != (k : Int)) = false := by simp
      go_wp2_with fail
      refine HPU2.out.mono ?_
      rintro e w4 ⟨⟨A4, c4, rfl, hI4⟩, hb4⟩
      have HI4 := Lib.hid hI4
      clear hI4 q0 q1 q2 q3 q4
      have B4 := Lib.hid ((HB1.out.trans (B3.out.mono HB1.out.size)).trans (hb4.mono (HB1.out.trans (B3.out.mono HB1.out.size)).size))
      have HX := Lib.hid ((Hb0.out.under BW.out).under hb4)
      clear hb4 BW HPU2 hne HB2
      obtain ⟨b4, o4, rfl, hlt4, hc4⟩ := HI4.out (by rw [HPL.out]; omega)
      have HC4 := Lib.hid (show ∀ t, t < k → w4.cell? ⟨b4, o4 + t, none⟩ = some (.int .i64 (pullOf j l t)) from fun t ht => by rw [hc4 t (by rw [HPL.out]; exact ht), HPP.out t (by rw [HLEN.out]; exact ht)])
      clear hc4
      have hne : ((k : Int) != (k : Int)) = false := by simp
      go_wp2_with fail
      obtain ⟨wz, rfl⟩ : ∃ wz : World, wz = wr := ⟨_, rfl⟩
      go_loopw [9] (fun s9 wr => ∃ t : Nat, 1 ≤ t ∧ t ≤ max k 1 ∧ s9 = .int .i64 t ∧ Hid (Below w4.heap.size w4 wr)) (fun s9 _ => k - (intOf s9).toNat)
      case atStart => exact ⟨1, Nat.le_refl _, by omega, rfl, Below.refl _ _⟩
      case round =>
        obtain ⟨t, ht1, ht2, rfl, BV⟩ := hrel
        by_cases hlt : t < k
        · have c0 := oldCell BV.out hlt4 (HC4.out t hlt)
          have c1 := oldCell BV.out hlt4 (HC4.out (t - 1) (by omega))
          have hst := pullOf_step HCC.out (i := t - 1) (by rw [HLEN.out]; omega)
          rw [show t - 1 + 1 = t by omega] at hst
          have hle : pullOf j l t ≤ pullOf j l (t - 1) := by omega
          have hd : decide (pullOf j l (t - 1) < pullOf j l t) = false := decide_eq_false (by omega)
          clear hst
          generalize pullOf j l t = pa at *
          generalize pullOf j l (t - 1) = pb at *
          have hd2 : decide (t < k) = true := decide_eq_true hlt
          go_wp2_with fail
          go_quiet (fail)
          go_wp2_with fail
          go_roundw
          case rel => exact ⟨t + 1, by omega, by omega, by go_num, belowDrewN BV.out _⟩
          case measure => simp [intOf]; omega
        · have c0 := oldCell BV.out hlt4 (HC4.out (k - 1) (by omega))
          have hov := pullOf_over HCC.out (k - 1) (by rw [HLEN.out]; omega)
          have hd : decide (j.Over ≤ pullOf j l (k - 1)) = true := decide_eq_true hov
          generalize pullOf j l (k - 1) = pa at *
          have x4 := (HX.out.under BV.out).cell 4
          simp only [List.getElem?_toArray, List.getElem?_cons_zero, List.getElem?_cons_succ] at x4
          have hd2 : decide (t < k) = false := decide_eq_false hlt
          go_wp2_with fail
          have z1 : IntKind.i64.wrap ((k : Int) - 1) = (k : Int) - 1 := IntWalk.i64_in _ (by omega)
          have z2 : (0 : Int) ≤ (k : Int) - 1 := by omega
          have z3 : ((k : Int) - 1).toNat = k - 1 := by omega
          have z4 : (k : Int) - 1 < (k : Int) := by omega
          have z5 : (1 : Int) ≤ (k : Int) := by omega
          have z6 : 1 ≤ k := by omega
          have FX := Lib.hid (HX.out.under BV.out)
          have FC := Lib.hid c0
          have hb4w : b4 < wr.heap.size := by have := BV.out.size; omega
          go_region_held3 (fun w' => w'.cell? ⟨b4, o4 + (k - 1), none⟩ = some (.int .i64 pa) ∧ w'.cell? ⟨w1.heap.size, 4, none⟩ = some (.int .i64 j.Over)) (first | exact ⟨c0, x4⟩ | exact ⟨y0, y1⟩)
            (first
              | (go_at_call 14; refine (law05_awake _).mono ?_; rintro e w6 ⟨rfl, hb6⟩; have y1 := (FX.out.drew.under hb6).cell 4; have y0 := oldCell hb6 hb4w FC.out; simp only [List.getElem?_toArray, List.getElem?_cons_zero, List.getElem?_cons_succ] at y1)
              | fail)
          go_wp2_with fail
          go_ret
          refine ⟨rfl, ?_⟩
          have h1 := B4.out.trans (BV.out.mono B4.out.size)
          exact h1.drew.trans (hb6.mono h1.size)

end Go.Proofs.Ytannipfohicpmaa
