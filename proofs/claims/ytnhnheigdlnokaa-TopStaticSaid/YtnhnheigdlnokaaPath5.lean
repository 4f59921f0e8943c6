/- Walks of the package path, at the path that TopStatic shows awake: its length, its depths as a line. (Printed by gen_path5.py.) -/
import Derived.Test.YtnhnheigdlnokaaPath4
import Derived.Test.YtnhnheigdlnokaaFHeight
import Derived.Deep.AppendLies
namespace Go.Proofs.Ytnhnheigdlnokaa
open Go.RowKit Go.Shelf Mpl
attribute [local go_sem] Oper.semAt_some

def lenUp : Nat → Int
  | 0 => 0
  | 1 => 50000
  | _ => 100000

set_option maxHeartbeats 2000000 in
set_option maxRecDepth 100000 in
theorem path_Length (g : Nat) (w : World) (hp : PathAt w g) :
    Calls Try.prog 19 #[.agg #[.int .i64 0, .int .i64 0, .int .i64 0, .slice (some ⟨g, 0, none⟩) 2 2]] w fun e w' => e = .returned (.int .i64 100000) ∧ Below w.heap.size w w' := by
  have HP := Lib.hid hp
  have hfs : Fence.wide.fn 27 := trivial
  have hfc : Fence.wide.fn 26 := trivial
  obtain ⟨w2, hw2⟩ : ∃ w2, ((w.alloc (.cells #[.int .i64 0, .int .i64 0, .int .i64 0, .slice (some ⟨g, 0, none⟩) 2 2] 72)).alloc (.cells #[.int .i64 0] 2)) = w2 := ⟨_, rfl⟩
  have b0 : Box w2 w.heap.size 72 #[.int .i64 0, .int .i64 0, .int .i64 0, .slice (some ⟨g, 0, none⟩) 2 2] := by rw [← hw2]; exact (Box.new w _ _ rfl).alloc _
  have b1 : Box w2 (w.heap.size + 1) 2 #[.int .i64 0] := by rw [← hw2]; exact Box.new _ _ _ (by simp)
  have hB2 : Below w.heap.size w w2 := by rw [← hw2]; exact (by repeat (first | exact Below.refl _ _ | assumption | refine Below.setCell ?_ (by first | (simp; done) | (simp; omega)) _ | refine belowDrewN ?_ _ | refine Below.drew ?_ | refine Below.alloc ?_ (by first | (simp; done) | (simp; omega)) _))
  have HW2 := Lib.hid hw2
  have P2 := Lib.hid (HP.out.under hB2)
  have L2 := Lib.hid hB2
  clear hw2 hB2 hp HP
  refine (callsIn_wide (n := 10)).1 ?_
  refine callsIn_of_wp_marks Try.func19 rfl trivial ?_ rfl
  simp only [Try.ntmps19, List.size_toArray, List.length_cons, List.length_nil, Nat.reduceAdd, Nat.reduceSub, Array.replicate_succ, Array.replicate_zero, List.push_toArray, List.append_toArray, List.nil_append, List.cons_append]
  gi_wp2_with fail
  rw [HW2.out]
  refine (callsIn_wide.2 (path_Check g _ P2.out)).mono ?_
  rintro e w3 ⟨rfl, hb3⟩
  have c0 := b0.under hb3
  have c1 := b1.under hb3
  have P3 := Lib.hid (P2.out.under hb3)
  have L3 := Lib.hid (L2.out.trans (hb3.mono L2.out.size))
  clear hb3 b0 b1 P2 L2 HW2
  obtain ⟨q0, q1, q2, q3⟩ := path_cells c0
  gi_wp2_with fail
  refine (callsIn_wide.2 (path_parts _ _ _ _ _)).mono ?_
  rintro e w' ⟨rfl, rfl⟩
  obtain ⟨w4, hw4⟩ : ∃ w4, w3.alloc (.cells #[.int .i64 0, .int .i64 0, .int .i64 0, .slice (some ⟨g, 0, none⟩) 2 2] 72) = w4 := ⟨_, rfl⟩
  have hb4 : Below w3.heap.size w3 w4 := by rw [← hw4]; exact (Below.refl _ _).alloc (Nat.le_refl _) _
  have R4 : PathRead w3.heap.size g w4 := ⟨by rw [← hw4]; exact Box.new _ _ _ rfl, P3.out.under hb4⟩
  have c1' := c1.under hb4
  have L4 := Lib.hid (L3.out.trans (hb4.mono L3.out.size))
  have hs4 : w.heap.size + 1 < w4.heap.size := c1'.lt
  have HR4 := Lib.hid R4
  have HC4 := Lib.hid c1'
  have HW4 := Lib.hid hw4
  clear hw4 hb4 c0 c1 c1' R4 q0 q1 q2 q3 P3 L3
  rw [HW4.out]
  gi_wp2_with fail
  have hfs1 : Fence.wide.fn 38 := trivial
  refine range_idx3 rfl (by omega) (gf := 38) (lb := #[.pointer (some ⟨w3.heap.size, 0, none⟩)]) rfl trivial enters_parts1
    (t := 89) (parts_iter 9 w3.heap.size g (by omega)) (fun _ => rfl)
    ?rd ?rdc
    (fun k W => Box W (w.heap.size + 1) 2 #[.int .i64 (lenUp k)] ∧ Below w.heap.size w W)
    (fun _ _ _ => False) ?ic ?ixc ?i0
    (fun k a' W => ∃ bs, w4.heap.size ≤ bs ∧ Box W bs 89 (partC k) ∧ a' = { tmps := #[.agg #[.int .i64 0, .int .i64 0, .int .i64 0, .slice (some ⟨g, 0, none⟩) 2 2], .pointer (some ⟨w.heap.size, 0, none⟩), .int .i64 0, .pointer (some ⟨w.heap.size + 1, 0, none⟩), .pointer (some ⟨bs, 0, none⟩), .agg #[.int .i64 0, .int .i64 0, .int .i64 0, .slice (some ⟨g, 0, none⟩) 2 2], .int .i64 0, .bool true, .agg #[.int .i64 0, .int .i64 0, .int .i64 0, .slice (some ⟨g, 0, none⟩) 2 2], .func (.func 38) #[] #[.pointer (some ⟨w3.heap.size, 0, none⟩)], .agg (partC k), undef, undef, undef, undef, undef], defers := [] })
    ?axc ?assign ?body ?done ?stop
  case rd => exact HR4.out
  case rdc => exact fun W W' h hc => h.calmT hc.t
  case ic => exact fun k W W' h hc => ⟨h.1.calmT hc (by decide), below_calmT h.2 hc (by omega)⟩
  case ixc => exact fun _ _ _ _ h _ => h
  case i0 => exact ⟨HC4.out, L4.out⟩
  case axc =>
    rintro k a' W W' ⟨bs, h1, h2, h3⟩ hc
    exact ⟨bs, h1, h2.calm hc, h3⟩
  case assign =>
    rintro L k W K hk hi hr hsz hK
    have HKK := Lib.hid hK
    clear hK hi hr
    rcases (show k = 0 ∨ k = 1 by omega) with rfl | rfl
    all_goals
      simp only [partEnc, partC]
      gi_wp2_with fail
      refine HKK.out _ _ ((Below.refl _ _).alloc (Nat.le_refl _) _) ⟨W.heap.size, hsz, Box.new _ _ _ rfl, rfl⟩
  case body =>
    rintro L k a' W hk hlt ⟨c1, hB⟩ hr ⟨bs, hbs, cs, rfl⟩ hsz
    have C1 := Lib.hid c1
    have CS := Lib.hid cs
    have HB := Lib.hid hB
    have HR := Lib.hid hr
    clear hlt c1 cs hB hr
    have x0 := C1.out.cell 0
    have x1 := C1.out.frozen 0
    have y7 := CS.out.cell 7
    simp only [List.getElem?_toArray, List.getElem?_cons_zero] at x0
    rcases (show k = 0 ∨ k = 1 by omega) with rfl | rfl
    all_goals
      simp only [lenUp] at x0
      simp only [partC, List.getElem?_toArray, List.getElem?_cons_zero, List.getElem?_cons_succ] at y7 ⊢
      gi_wp2_with fail
      exact ⟨keeps_set W _ _, ⟨by simpa [lenUp] using C1.out.set_ 0 _, HB.out.setCell (p := ⟨w.heap.size + 1, 0, none⟩) (by simp) _⟩, ⟨HR.out.path.far (box_ne HR.out.path C1.out (by decide)) _, ⟨HR.out.legs.legs.far (box_ne HR.out.legs.legs C1.out (by decide)) _⟩⟩, Firm.set C1.out (by decide) 0 _⟩
  case done =>
    rintro W ⟨c1, hB⟩ hK
    have q2 := c1.cell 0
    simp only [List.getElem?_toArray, List.getElem?_cons_zero, lenUp] at q2
    have HB := Lib.hid hB
    have HKD := Lib.hid hK
    clear hB c1 hK
    gi_wp2_with fail
    refine ⟨by simp, .inl ⟨_, _, rfl, run_takeDeferred HKD.out, ?_⟩⟩
    refine ⟨_, results_tmp rfl _ _ _, ?_, HB.out.trans (belowK_b (w := w) (Nat.le_refl _) W w4.heap.size _ _ (by omega) HKD.out rfl rfl)⟩
    rfl
  case stop =>
    rintro c k W _ h _
    exact h.elim

end Go.Proofs.Ytnhnheigdlnokaa
