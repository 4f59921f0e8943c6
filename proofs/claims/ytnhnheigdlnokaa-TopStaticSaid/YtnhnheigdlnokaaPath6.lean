/- Walks of the package path, at the path that TopStatic shows awake: its depths as a line. (Printed by gen_path6.py.) -/
import Derived.Test.YtnhnheigdlnokaaPath5
import Derived.Test.YtnhnheigdlnokaaFHeight
namespace Go.Proofs.Ytnhnheigdlnokaa
open Go.RowKit Go.Shelf Mpl
attribute [local go_sem] Oper.semAt_some

def vertK : Nat → List Knot
  | 0 => [⟨0, 0⟩]
  | 1 => [⟨0, 0⟩, ⟨50000, 50000⟩]
  | _ => [⟨0, 0⟩, ⟨50000, 50000⟩, ⟨100000, 90000⟩]

/-- what the loop holds -/
structure VSt (w : World) (M k : Nat) (v : Value) (W : World) : Prop where
  res : Box W (w.heap.size + 1) 62 #[.slice none 0 0]
  out : Box W (M + 1) 62 #[v]
  own : W.ownsRow M 81 2 v (k + 1) ((vertK k).flatMap knotC)
  low : Below w.heap.size w W

set_option maxHeartbeats 4000000 in
set_option maxRecDepth 100000 in
theorem path_Vert (g : Nat) (w : World) (hp : PathAt w g) :
    Calls Try.prog 20 #[.agg #[.int .i64 0, .int .i64 0, .int .i64 0, .slice (some ⟨g, 0, none⟩) 2 2]] w fun e w' => (∃ A c, e = .returned (.agg #[.slice A 3 c]) ∧ w'.ownsRow w.heap.size 81 2 (.slice A 3 c) 3 ((vertK 2).flatMap knotC)) ∧ Below w.heap.size w w' := by
  have HP := Lib.hid hp
  have hfs : Fence.wide.fn 27 := trivial
  have hfc : Fence.wide.fn 26 := trivial
  obtain ⟨w2, hw2⟩ : ∃ w2, ((w.alloc (.cells #[.int .i64 0, .int .i64 0, .int .i64 0, .slice (some ⟨g, 0, none⟩) 2 2] 72)).alloc (.cells #[.slice none 0 0] 62)) = w2 := ⟨_, rfl⟩
  have b0 : Box w2 w.heap.size 72 #[.int .i64 0, .int .i64 0, .int .i64 0, .slice (some ⟨g, 0, none⟩) 2 2] := by rw [← hw2]; exact (Box.new w _ _ rfl).alloc _
  have b1 : Box w2 (w.heap.size + 1) 62 #[.slice none 0 0] := by rw [← hw2]; exact Box.new _ _ _ (by simp)
  have hB2 : Below w.heap.size w w2 := by rw [← hw2]; exact (by repeat (first | exact Below.refl _ _ | assumption | refine Below.setCell ?_ (by first | (simp; done) | (simp; omega)) _ | refine belowDrewN ?_ _ | refine Below.drew ?_ | refine Below.alloc ?_ (by first | (simp; done) | (simp; omega)) _))
  have HW2 := Lib.hid hw2
  have P2 := Lib.hid (HP.out.under hB2)
  have L2 := Lib.hid hB2
  clear hw2 hB2 hp HP
  refine (callsIn_wide (n := 10)).1 ?_
  refine callsIn_of_wp_marks Try.func20 rfl trivial ?_ rfl
  simp only [Try.ntmps20, List.size_toArray, List.length_cons, List.length_nil, Nat.reduceAdd, Nat.reduceSub, Array.replicate_succ, Array.replicate_zero, List.push_toArray, List.append_toArray, List.nil_append, List.cons_append]
  gi_wp2_with fail
  rw [HW2.out]
  refine (callsIn_wide.2 (path_Check g _ P2.out)).mono ?_
  rintro e w3 ⟨rfl, hb3⟩
  have c0 := b0.under hb3
  have c1 := Lib.hid (b1.under hb3)
  have P3 := Lib.hid (P2.out.under hb3)
  have L3 := Lib.hid (L2.out.trans (hb3.mono L2.out.size))
  have hl3 : w.heap.size + 1 < w3.heap.size := c1.out.lt
  have e1 : w.heap.size < w3.heap.size := by omega
  have e2 : w.heap.size < w3.heap.size + 1 := by omega
  have e3 : w.heap.size < w3.heap.size + 1 + 1 := by omega
  clear hb3 b0 b1 P2 L2 HW2
  obtain ⟨q0, q1, q2, q3⟩ := path_cells c0
  gi_wp2_with fail
  refine (callsIn_wide.2 (path_parts _ _ _ _ _)).mono ?_
  rintro e w' ⟨rfl, rfl⟩
  obtain ⟨w4, hw4⟩ : ∃ w4, ((w3.alloc (.cells #[.int .i64 0, .int .i64 0] 81)).alloc (.cells #[.slice (some ⟨w3.heap.size, 0, none⟩) 1 1] 62)).alloc (.cells #[.int .i64 0, .int .i64 0, .int .i64 0, .slice (some ⟨g, 0, none⟩) 2 2] 72) = w4 := ⟨_, rfl⟩
  have hb4 : Below w3.heap.size w3 w4 := by rw [← hw4]; exact (by repeat (first | exact Below.refl _ _ | assumption | refine Below.setCell ?_ (by first | (simp; done) | (simp; omega)) _ | refine belowDrewN ?_ _ | refine Below.drew ?_ | refine Below.alloc ?_ (by first | (simp; done) | (simp; omega)) _))
  have R4 : PathRead (w3.heap.size + 1 + 1) g w4 := ⟨by rw [← hw4]; exact Box.new _ _ _ (by simp), P3.out.under hb4⟩
  have V4 : VSt w w3.heap.size 0 (.slice (some ⟨w3.heap.size, 0, none⟩) 1 1) w4 := ⟨c1.out.under hb4, by rw [← hw4]; exact (Box.new _ _ _ (by simp)).alloc _,
    by rw [← hw4]; exact ((World.ownsRow_lit (base := w3.heap.size) (e := 81) (size := 2) w3 #[.int .i64 0, .int .i64 0] 1 (Nat.le_refl _) (by unfold maxLen; omega) rfl).alloc _).alloc _, L3.out.trans (hb4.mono L3.out.size)⟩
  have hs4 : w4.heap.size = w3.heap.size + 1 + 1 + 1 := by rw [← hw4]; simp
  have HR4 := Lib.hid R4
  have HV4 := Lib.hid V4
  have HW4 := Lib.hid hw4
  have HS4 := Lib.hid hs4
  clear hw4 hb4 c0 c1 R4 V4 q0 q1 q2 q3 P3 L3 hs4
  rw [HW4.out]
  gi_wp2_with fail
  have hfs1 : Fence.wide.fn 38 := trivial
  obtain ⟨i0, hi0, hz0, hz1, hz2⟩ := info_parts info_Knot
  refine range_idx3 rfl (by omega) (gf := 38) (lb := #[.pointer (some ⟨w3.heap.size + 1 + 1, 0, none⟩)]) rfl trivial enters_parts1
    (t := 89) (parts_iter 9 (w3.heap.size + 1 + 1) g (by omega)) (fun _ => rfl)
    ?rd ?rdc
    (fun k W => ∃ v, VSt w w3.heap.size k v W)
    (fun _ _ _ => False) ?ic ?ixc ?i0
    (fun k a' W => ∃ bs, w4.heap.size ≤ bs ∧ Box W bs 89 (partC k) ∧ a' = { tmps := #[.agg #[.int .i64 0, .int .i64 0, .int .i64 0, .slice (some ⟨g, 0, none⟩) 2 2], .pointer (some ⟨w.heap.size, 0, none⟩), .pointer (some ⟨w.heap.size + 1, 0, none⟩), .pointer (some ⟨w3.heap.size + 1, 0, none⟩), .pointer (some ⟨bs, 0, none⟩), .agg #[.int .i64 0, .int .i64 0, .int .i64 0, .slice (some ⟨g, 0, none⟩) 2 2], .int .i64 0, .bool false, undef, .pointer (some ⟨w.heap.size, 0, none⟩), .pointer (some ⟨w.heap.size, 2, none⟩), .int .i64 0, .agg #[.int .i64 0, .int .i64 0], .slice (some ⟨w3.heap.size, 0, none⟩) 1 1, .agg #[.slice (some ⟨w3.heap.size, 0, none⟩) 1 1], .agg #[.int .i64 0, .int .i64 0, .int .i64 0, .slice (some ⟨g, 0, none⟩) 2 2], .func (.func 38) #[] #[.pointer (some ⟨w3.heap.size + 1 + 1, 0, none⟩)], .agg (partC k), undef, undef, undef, undef, undef, undef, undef, undef, undef, undef, undef, undef, undef, undef, undef, undef, undef, undef, undef], defers := [] })
    ?axc ?assign ?body ?done ?stop
  case rd => exact HR4.out
  case rdc => exact fun W W' h hc => h.calmT hc.t
  case ic => exact fun k W W' ⟨v, h⟩ hc => ⟨v, h.res.calmT hc (by decide), h.out.calmT hc (by decide), own_calmT h.own hc (by decide), below_calmT h.low hc (by rw [HS4.out]; omega)⟩
  case ixc => exact fun _ _ _ _ h _ => h
  case i0 => exact ⟨_, HV4.out⟩
  case axc =>
    rintro k a' W W' ⟨bs, h1, h2, h3⟩ hc
    exact ⟨bs, h1, h2.calm hc, h3⟩
  case assign =>
    rintro L k W K hk hi hr hsz hK
    have HKK := Lib.hid hK
    clear hK hi hr
    rcases (show k = 0 ∨ k = 1 by omega) with rfl | rfl
    all_goals
      simp only [partEnc, partC]
      gi_wp2_with fail
      refine HKK.out _ _ ((Below.refl _ _).alloc (Nat.le_refl _) _) ⟨W.heap.size, hsz, Box.new _ _ _ rfl, rfl⟩
  case body =>
    rintro L k a' W hk hlt ⟨v, hv⟩ hr ⟨bs, hbs, cs, rfl⟩ hsz
    have HV := Lib.hid hv
    have CS := Lib.hid cs
    have HR := Lib.hid hr
    have hm := HV.out.out.lt
    have hm2 := CS.out.lt
    rw [HS4.out] at hsz hbs
    clear hlt cs hv hr e1 e2 e3
    have x0 := (show W.cell? ⟨w3.heap.size + 1, 0, none⟩ = some v from HV.out.out.cell 0)
    rcases (show k = 0 ∨ k = 1 by omega) with rfl | rfl
    · obtain ⟨y0, y1, y2, y3, y4, y5, y6, y7⟩ := part_cells CS.out
      have OW := Lib.hid (HV.out.own.alloc (.cells #[.int .i64 50000, .int .i64 50000] 81))
      have XO := Lib.hid (HV.out.out.alloc (.cells #[.int .i64 50000, .int .i64 50000] 81))
      have XR := Lib.hid (HV.out.res.alloc (.cells #[.int .i64 50000, .int .i64 50000] 81))
      have BA := Lib.hid (show Below W.heap.size W (W.alloc (.cells #[.int .i64 50000, .int .i64 50000] 81)) from (Below.refl _ _).alloc (Nat.le_refl _) _)
      have RA := Lib.hid (HR.out.under BA.out)
      have LA := Lib.hid (HV.out.low.alloc HV.out.low.size (.cells #[.int .i64 50000, .int .i64 50000] 81))
      clear CS HR HV
      simp only [partC]
      gi_wp2_with (gi_at_builtin; refine wpListIn_append_own _ rfl _ _ 49 rfl w3.heap.size 81 i0 (.agg #[.int .i64 0, .int .i64 0]) 2 16 Try.underlying49 hi0 hz0 hz1 hz2 rfl (by decide) v (0 + 1) ((vertK 0).flatMap knotC) rfl OW.out ⟨W.heap.size, 0, none⟩ 1 1 (knotC ⟨50000, 50000⟩) rfl (by simp [knotC]) ?a0 ?a1 ?a2 ?a3 ?a4 ?_)
      case a0 => exact cells_new W (knotC ⟨50000, 50000⟩) 81
      case a1 => simp [knotC, Value.oneCell']
      case a2 => unfold maxLen; omega
      case a3 => omega
      case a4 => simp; omega
      intro v7 w7 hown7 hg7 _
      have N1 := own_box OW.out XO.out (by decide)
      have N2 := own_box OW.out XR.out (by decide)
      have N3 := own_box OW.out RA.out.path (by decide)
      have N4 := own_box OW.out RA.out.legs.legs (by decide)
      have XO7 := Lib.hid (XO.out.grownRow hg7 N1)
      have XR7 := Lib.hid (XR.out.grownRow hg7 N2)
      have RA7 : Hid (PathRead (w3.heap.size + 1 + 1) g w7) := ⟨RA.out.path.grownRow hg7 N3, ⟨RA.out.legs.legs.grownRow hg7 N4⟩⟩
      have LA7 := Lib.hid (below_grown LA.out (own_le OW.out (show w.heap.size ≤ w3.heap.size by have := XR.out.lt; omega)) hg7 (by simp; omega))
      have F7 := Lib.hid ((Firm.below (t := 89) BA.out).trans (Firm.grown OW.out (by decide) hg7))
      have K7 : Hid (KeepsFrom w4.heap.size W w7) := keeps_trans (keeps_below BA.out) (keeps_grown OW.out hg7)
      obtain ⟨A7, c7, rfl, _, _⟩ := own_form hown7
      have O7 := Lib.hid hown7
      have x0 := (show w7.cell? ⟨w3.heap.size + 1, 0, none⟩ = some v from XO7.out.cell 0)
      have x1 := XO7.out.frozen 0
      have N5 := own_box O7.out XO7.out (by decide)
      clear hown7 hg7
      gi_wp2_with fail
      refine ⟨keeps_trans K7.out (keeps_set w7 _ _), ⟨_, ?_, by simpa using XO7.out.set_ 0 _, own_set (p := ⟨w3.heap.size + 1, 0, none⟩) O7.out N5 _, LA7.out.setCell (p := ⟨w3.heap.size + 1, 0, none⟩) (by simp; omega) _⟩, ⟨RA7.out.path.far (box_ne RA7.out.path XO7.out (by decide)) _, ⟨RA7.out.legs.legs.far (box_ne RA7.out.legs.legs XO7.out (by decide)) _⟩⟩, F7.out.trans (Firm.set XO7.out (by decide) 0 _)⟩
      exact XR7.out.far (by simp; omega) _
    · obtain ⟨y0, y1, y2, y3, y4, y5, y6, y7⟩ := part_cells CS.out
      have OW := Lib.hid (HV.out.own.alloc (.cells #[.int .i64 100000, .int .i64 90000] 81))
      have XO := Lib.hid (HV.out.out.alloc (.cells #[.int .i64 100000, .int .i64 90000] 81))
      have XR := Lib.hid (HV.out.res.alloc (.cells #[.int .i64 100000, .int .i64 90000] 81))
      have BA := Lib.hid (show Below W.heap.size W (W.alloc (.cells #[.int .i64 100000, .int .i64 90000] 81)) from (Below.refl _ _).alloc (Nat.le_refl _) _)
      have RA := Lib.hid (HR.out.under BA.out)
      have LA := Lib.hid (HV.out.low.alloc HV.out.low.size (.cells #[.int .i64 100000, .int .i64 90000] 81))
      clear CS HR HV
      simp only [partC]
      gi_wp2_with (gi_at_builtin; refine wpListIn_append_own _ rfl _ _ 49 rfl w3.heap.size 81 i0 (.agg #[.int .i64 0, .int .i64 0]) 2 16 Try.underlying49 hi0 hz0 hz1 hz2 rfl (by decide) v (1 + 1) ((vertK 1).flatMap knotC) rfl OW.out ⟨W.heap.size, 0, none⟩ 1 1 (knotC ⟨100000, 90000⟩) rfl (by simp [knotC]) ?a0 ?a1 ?a2 ?a3 ?a4 ?_)
      case a0 => exact cells_new W (knotC ⟨100000, 90000⟩) 81
      case a1 => simp [knotC, Value.oneCell']
      case a2 => unfold maxLen; omega
      case a3 => omega
      case a4 => simp; omega
      intro v7 w7 hown7 hg7 _
      have N1 := own_box OW.out XO.out (by decide)
      have N2 := own_box OW.out XR.out (by decide)
      have N3 := own_box OW.out RA.out.path (by decide)
      have N4 := own_box OW.out RA.out.legs.legs (by decide)
      have XO7 := Lib.hid (XO.out.grownRow hg7 N1)
      have XR7 := Lib.hid (XR.out.grownRow hg7 N2)
      have RA7 : Hid (PathRead (w3.heap.size + 1 + 1) g w7) := ⟨RA.out.path.grownRow hg7 N3, ⟨RA.out.legs.legs.grownRow hg7 N4⟩⟩
      have LA7 := Lib.hid (below_grown LA.out (own_le OW.out (show w.heap.size ≤ w3.heap.size by have := XR.out.lt; omega)) hg7 (by simp; omega))
      have F7 := Lib.hid ((Firm.below (t := 89) BA.out).trans (Firm.grown OW.out (by decide) hg7))
      have K7 : Hid (KeepsFrom w4.heap.size W w7) := keeps_trans (keeps_below BA.out) (keeps_grown OW.out hg7)
      obtain ⟨A7, c7, rfl, _, _⟩ := own_form hown7
      have O7 := Lib.hid hown7
      have x0 := (show w7.cell? ⟨w3.heap.size + 1, 0, none⟩ = some v from XO7.out.cell 0)
      have x1 := XO7.out.frozen 0
      have N5 := own_box O7.out XO7.out (by decide)
      clear hown7 hg7
      gi_wp2_with fail
      refine ⟨keeps_trans K7.out (keeps_set w7 _ _), ⟨_, ?_, by simpa using XO7.out.set_ 0 _, own_set (p := ⟨w3.heap.size + 1, 0, none⟩) O7.out N5 _, LA7.out.setCell (p := ⟨w3.heap.size + 1, 0, none⟩) (by simp; omega) _⟩, ⟨RA7.out.path.far (box_ne RA7.out.path XO7.out (by decide)) _, ⟨RA7.out.legs.legs.far (box_ne RA7.out.legs.legs XO7.out (by decide)) _⟩⟩, F7.out.trans (Firm.set XO7.out (by decide) 0 _)⟩
      exact XR7.out.far (by simp; omega) _
  case done =>
    rintro W ⟨v, hv⟩ hK
    obtain ⟨A', c', rfl, _, _⟩ := own_form hv.own
    have HV := Lib.hid hv
    have HKD := Lib.hid hK
    have g0 := (show W.cell? ⟨w3.heap.size + 1, 0, none⟩ = some (.slice A' (2 + 1) c') from HV.out.out.cell 0)
    have g2 := (show W.cell? ⟨w.heap.size + 1, 0, none⟩ = some (.slice none 0 0) from HV.out.res.cell 0)
    have g3 := HV.out.res.frozen 0
    clear hv hK
    gi_wp2_with fail
    have hK' : (W.setCell ⟨w.heap.size + 1, 0, none⟩ (.slice A' (2 + 1) c')).heap[w4.heap.size]? = some (.deferred (some [])) := (Below.heap_setCell W ⟨w.heap.size + 1, 0, none⟩ _ _ (by rw [HS4.out]; simp; omega)).trans HKD.out
    refine ⟨by simp, .inl ⟨_, _, rfl, run_takeDeferred hK', ?_⟩⟩
    have BX := (HV.out.res.set_ 0 (.slice A' (2 + 1) c')).calm (Calm.put (.deferred none) (Nat.le_refl _) hK' rfl)
    refine ⟨_, results_cell1 rfl _ _ _ (w.heap.size + 1) _ rfl (load_line (t := 62) (by simpa using BX)), ⟨A', c', rfl, ?_⟩, ?_⟩
    · exact own_le (own_calm (own_far (p := ⟨w.heap.size + 1, 0, none⟩) HV.out.own (by simp; omega) (.slice A' (2 + 1) c')) (Calm.put (.deferred none) (Nat.le_refl _) hK' rfl)) (show w.heap.size ≤ w3.heap.size by omega)
    · exact (HV.out.low.setCell (p := ⟨w.heap.size + 1, 0, none⟩) (by simp) _).trans (belowK_b (w := w) (Nat.le_refl _) _ w4.heap.size _ _ (by rw [HS4.out]; omega) hK' rfl rfl)
  case stop =>
    rintro c k W _ h _
    exact h.elim

end Go.Proofs.Ytnhnheigdlnokaa
