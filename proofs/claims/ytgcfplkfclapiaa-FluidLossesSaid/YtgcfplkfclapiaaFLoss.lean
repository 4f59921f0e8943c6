/- Walks of the package fluid: the loss above a place. -/
import Derived.Test.YtgcfplkfclapiaaFGradient
import Derived.Test.YtgcfplkfclapiaaFWhere
import Derived.Test.YtgcfplkfclapiaaFRefHole
import Derived.Test.YtgcfplkfclapiaaAnyRound
namespace Mpl
theorem above_bound {h : List Seg} (hg : GoodHole h) (u : Int) {k : Nat} (hk : k < h.length) : 0 ≤ aboveSeg h u k ∧ aboveSeg h u k ≤ segSize (sg h k) := by
  have := (hg.seg hk).2.1
  unfold aboveSeg
  omega
theorem upDiv_exact {a b n : Int} (hb : 1 ≤ b) (ha : a ≤ n * b) : upDiv a b ≤ n := by
  unfold upDiv
  have h1 : a + b - 1 < (n + 1) * b := by rw [Int.add_mul]; omega
  have h2 := (Int.ediv_lt_iff_lt_mul (show 0 < b by omega)).2 h1
  omega
theorem loss_step {h : List Seg} (hg : GoodHole h) (m : Mud) (flow u : Int) {k : Nat} (hk : k < h.length) :
    0 ≤ aboveSeg h u k / (sg h k).Area ∧ aboveSeg h u k / (sg h k).Area ≤ (sg h k).Long ∧ 0 ≤ upDiv (aboveSeg h u k) (sg h k).Area ∧ upDiv (aboveSeg h u k) (sg h k).Area ≤ (sg h k).Long ∧
    0 ≤ lossLo h m flow u k ∧ lossLo h m flow u k ≤ 20000 * (sg h k).Long ∧ 0 ≤ lossHi h m flow u k ∧ lossHi h m flow u k ≤ 20000 * (sg h k).Long := by
  have ha := above_bound hg u hk
  have hf := hg.fair k hk
  have h0 := hf.area0
  have hl := hf.long
  have hgr := grad_nonneg (sg h k) m flow
  unfold segSize at ha
  have a1 : 0 ≤ aboveSeg h u k / (sg h k).Area := Int.ediv_nonneg ha.1 (by omega)
  have a2 : aboveSeg h u k / (sg h k).Area ≤ (sg h k).Long := Int.ediv_le_of_le_mul (by omega) ha.2
  have a3 : 0 ≤ upDiv (aboveSeg h u k) (sg h k).Area := Int.ediv_nonneg (by omega) (by omega)
  have a4 : upDiv (aboveSeg h u k) (sg h k).Area ≤ (sg h k).Long := upDiv_exact h0 ha.2
  refine ⟨a1, a2, a3, a4, Int.mul_nonneg hgr.1 a1, ?_, Int.mul_nonneg hgr.1 a3, ?_⟩
  · exact Int.mul_le_mul hgr.2 a2 a1 (by omega)
  · exact Int.mul_le_mul hgr.2 a4 a3 (by omega)
theorem loss_upto {h : List Seg} (hg : GoodHole h) (m : Mud) (flow u : Int) (k : Nat) (hk : k ≤ h.length) :
    0 ≤ sumFrom (lossLo h m flow u) 0 k ∧ sumFrom (lossLo h m flow u) 0 k ≤ 20971520000 ∧ 0 ≤ sumFrom (lossHi h m flow u) 0 k ∧ sumFrom (lossHi h m flow u) 0 k ≤ 20971520000 := by
  have main : ∀ k, k ≤ h.length → 0 ≤ sumFrom (lossLo h m flow u) 0 k ∧ sumFrom (lossLo h m flow u) 0 k ≤ 20000 * longUp h k ∧ 0 ≤ sumFrom (lossHi h m flow u) 0 k ∧ sumFrom (lossHi h m flow u) 0 k ≤ 20000 * longUp h k := by
    intro k
    induction k with
    | zero => intro _; simp [sumFrom, longUp]
    | succ k ih =>
      intro hk
      have i := ih (by omega)
      have s := loss_step hg m flow u (k := k) hk
      rw [up_step, up_step, longUp_step]
      omega
  have h1 := main k hk
  have h2 := (hg.ups k hk).2.1
  omega
theorem lossOf_eq (l : List Seg) (m : Mud) (flow u : Int) (hi : inHole l u = true) (ha : allFlow l m flow l.length = true) : lossOf l m flow u = (⟨sumFrom (lossLo l m flow u) 0 l.length, sumFrom (lossHi l m flow u) 0 l.length⟩, true) := by
  unfold lossOf
  rw [hi, ha]
  rfl
theorem lossOf_not (l : List Seg) (m : Mud) (flow u : Int) (h : inHole l u = false ∨ allFlow l m flow l.length = false) : lossOf l m flow u = (⟨0, 0⟩, false) := by
  unfold lossOf
  rcases h with h | h <;> rw [h] <;> simp
theorem allFlow_step (l : List Seg) (m : Mud) (flow : Int) (k : Nat) : allFlow l m flow (k + 1) = (allFlow l m flow k && (gradient (sg l k) m flow).2) := by
  unfold allFlow
  rw [List.range_succ, List.all_append]
  simp
theorem allFlow_not {l : List Seg} {m : Mud} {flow : Int} {k : Nat} (hk : k < l.length) (h : (gradient (sg l k) m flow).2 = false) : allFlow l m flow l.length = false := by
  unfold allFlow
  rw [List.all_eq_false]
  exact ⟨k, by simpa using hk, by simp [h]⟩
end Mpl
namespace Go.Proofs.Ytgcfplkfclapiaa
open Go.RowKit Go.Shelf Mpl
attribute [local go_sem] Oper.semAt_some

theorem results_loss {fn : Func} {p q : Tmp} (h : fn.results = #[.cell p 34, .cell q 4]) (tmps : Array Value) (w : World) (g g' : Nat) (x y : Int) (b : Bool)
    (hp : tmps.getD p undef = .pointer (some ⟨g, 0, none⟩)) (hq : tmps.getD q undef = .pointer (some ⟨g', 0, none⟩)) (h1 : Box w g 34 #[.int .i64 x, .int .i64 y]) (h2 : Box w g' 4 #[.bool b]) :
    (results fn tmps).run Try.prog w = .ok (.tuple #[.agg #[.int .i64 x, .int .i64 y], .bool b]) w := by
  have q0 := h1.cell 0
  have q1 := h1.cell 1
  have q2 := h2.cell 0
  simp only [List.getElem?_toArray, List.getElem?_cons_zero, List.getElem?_cons_succ] at q0 q1 q2
  simp only [results, h]
  rw [Array.getD_eq_getD_getElem?] at hp hq
  simp [Sem.run_bind, Result.andThen]
  rw [hp, hq]
  simp [go_sem, q0, q1, q2]

set_option maxHeartbeats 8000000 in
set_option maxRecDepth 100000 in
theorem fluid_Loss (v0 : Value) (l : List Seg) (m : Mud) (flow u : Int) (w : World) (hv : HoleV w w.heap.size v0 l) (hin : SegsIn l) (hm : l.length ≤ maxLen) :
    Calls Try.prog 50 #[v0, mudV m, .int .i64 flow, .int .i64 u] w fun e w' => e = .returned (.tuple #[.agg #[.int .i64 (lossOf l m flow u).1.Lo, .int .i64 (lossOf l m flow u).1.Hi], .bool (lossOf l m flow u).2]) ∧ Below w.heap.size w w' := by
  have hvv := hv
  obtain ⟨A, c, rfl, hS⟩ := hv
  obtain ⟨w0, hw0⟩ : ∃ w0, (((((w.alloc (.cells #[.slice A l.length c] 25)).alloc (.cells #[.int .i64 m.Yield, .int .i64 m.Visc] 47)).alloc (.cells #[.int .i64 flow] 2)).alloc (.cells #[.int .i64 u] 2)).alloc (.cells #[.int .i64 0, .int .i64 0] 34)).alloc (.cells #[.bool false] 4) = w0 := ⟨_, rfl⟩
  have hB0 : Below w.heap.size w w0 := by rw [← hw0]; exact (by repeat (first | exact Below.refl _ _ | assumption | refine Below.setCell ?_ (by first | (simp; done) | (simp; omega)) _ | refine belowDrewN ?_ _ | refine Below.drew ?_ | refine Below.alloc ?_ (by first | (simp; done) | (simp; omega)) _))
  have B0 := Lib.hid (show Box w0 w.heap.size 25 #[.slice A l.length c] by rw [← hw0]; exact (((((Box.new w _ _ rfl).alloc _).alloc _).alloc _).alloc _).alloc _)
  have B1 := Lib.hid (show Box w0 (w.heap.size + 1) 47 #[.int .i64 m.Yield, .int .i64 m.Visc] by rw [← hw0]; exact ((((Box.new _ _ _ (by simp)).alloc _).alloc _).alloc _).alloc _)
  have B2 := Lib.hid (show Box w0 (w.heap.size + 1 + 1) 2 #[.int .i64 flow] by rw [← hw0]; exact (((Box.new _ _ _ (by simp)).alloc _).alloc _).alloc _)
  have B3 := Lib.hid (show Box w0 (w.heap.size + 1 + 1 + 1) 2 #[.int .i64 u] by rw [← hw0]; exact ((Box.new _ _ _ (by simp)).alloc _).alloc _)
  have B4 := Lib.hid (show Box w0 (w.heap.size + 1 + 1 + 1 + 1) 34 #[.int .i64 0, .int .i64 0] by rw [← hw0]; exact (Box.new _ _ _ (by simp)).alloc _)
  have B5 := Lib.hid (show Box w0 (w.heap.size + 1 + 1 + 1 + 1 + 1) 4 #[.bool false] by rw [← hw0]; exact Box.new _ _ _ (by simp))
  have HI := Lib.hid (fluid_in _ l u w0 (hvv.below hB0) hin hm)
  have hgood : inHole l u = true → GoodHole l := fun h => (checkHole_iff l).1 (by
    unfold inHole at h
    simp at h
    exact h.1)
  have HW0 := Lib.hid hw0
  have HB0 := Lib.hid hB0
  clear hvv hw0
  have hz0 : ∀ W W', Below w0.heap.size w0 W → W' = W → True := fun _ _ _ _ => trivial
  clear hz0
  have q0 := hole_box B0.out
  have q3 := (show w0.cell? ⟨w.heap.size + 1 + 1 + 1, 0, none⟩ = some (.int .i64 u) from B3.out.cell 0)
  cases hh : inHole l u
  · have hs : Hid (lossOf l m flow u = (⟨0, 0⟩, false)) := lossOf_not l m flow u (.inl hh)
    rw [hh] at HI
    clear hS hgood hh hin hB0
    unfold mudV
    generalize lossOf l m flow u = res at *
    generalize l.length = n at *
    go_enter Try.func50, Try.ntmps50
    go_wp2_with fail
    rw [HW0.out]
    go_wp2_with fail
    refine HI.out.mono ?_
    rintro e w1 ⟨rfl, hb1⟩
    have C4 := Lib.hid (B4.out.under hb1)
    have C5 := Lib.hid (B5.out.under hb1)
    have HB1 := Lib.hid (HB0.out.trans (hb1.mono HB0.out.size))
    have f0 := C4.out.frozen 0
    have f1 := C4.out.frozen 1
    have f2 := C5.out.frozen 0
    have x0 := (show w1.cell? ⟨w.heap.size + 1 + 1 + 1 + 1, 0, none⟩ = some (.int .i64 0) from C4.out.cell 0)
    have x1 := (show w1.cell? ⟨w.heap.size + 1 + 1 + 1 + 1, 1, none⟩ = some (.int .i64 0) from C4.out.cell 1)
    have x2 := (show w1.cell? ⟨w.heap.size + 1 + 1 + 1 + 1 + 1, 0, none⟩ = some (.bool false) from C5.out.cell 0)
    clear hb1
    go_wp2_with fail
    have D4 : Box (((w1.setCell ⟨w.heap.size + 1 + 1 + 1 + 1, 0, none⟩ (.int .i64 0)).setCell ⟨w.heap.size + 1 + 1 + 1 + 1, 1, none⟩ (.int .i64 0)).setCell ⟨w.heap.size + 1 + 1 + 1 + 1 + 1, 0, none⟩ (.bool false)) (w.heap.size + 1 + 1 + 1 + 1) 34 #[.int .i64 0, .int .i64 0] := by
      simpa using ((C4.out.set_ 0 (.int .i64 0)).set_ 1 (.int .i64 0)).far (p := ⟨w.heap.size + 1 + 1 + 1 + 1 + 1, 0, none⟩) (by simp) (.bool false)
    have D5 : Box (((w1.setCell ⟨w.heap.size + 1 + 1 + 1 + 1, 0, none⟩ (.int .i64 0)).setCell ⟨w.heap.size + 1 + 1 + 1 + 1, 1, none⟩ (.int .i64 0)).setCell ⟨w.heap.size + 1 + 1 + 1 + 1 + 1, 0, none⟩ (.bool false)) (w.heap.size + 1 + 1 + 1 + 1 + 1) 4 #[.bool false] := by
      simpa using ((C5.out.far (p := ⟨w.heap.size + 1 + 1 + 1 + 1, 0, none⟩) (by simp) (.int .i64 0)).far (p := ⟨w.heap.size + 1 + 1 + 1 + 1, 1, none⟩) (by simp) (.int .i64 0)).set_ 0 (.bool false)
    refine bodyPost_ret (results_loss rfl _ _ (w.heap.size + 1 + 1 + 1 + 1) (w.heap.size + 1 + 1 + 1 + 1 + 1) 0 0 false rfl rfl D4 D5) rfl ⟨by rw [hs.out], ?_⟩
    exact ((HB1.out.setCell (p := ⟨w.heap.size + 1 + 1 + 1 + 1, 0, none⟩) (by simp; omega) _).setCell (p := ⟨w.heap.size + 1 + 1 + 1 + 1, 1, none⟩) (by simp; omega) _).setCell (p := ⟨w.heap.size + 1 + 1 + 1 + 1 + 1, 0, none⟩) (by simp; omega) _
  have hub : 0 ≤ u ∧ u ≤ sizeUp l l.length := by have h := hh; unfold inHole at h; simp [within] at h; exact h.2
  have HG := Lib.hid (hgood hh)
  have hub2 := (HG.out.ups l.length (Nat.le_refl _)).2.2.2.2.2
  have HUB := Lib.hid (show 0 ≤ u ∧ u ≤ 5242880000 by omega)
  clear hub hub2
  have hfew := HG.out.few
  rw [hh] at HI
  have hsT := Lib.hid (lossOf_eq l m flow u hh)
  have hsF := Lib.hid (fun ha => lossOf_not l m flow u (.inr ha))
  have HS := Lib.hid (hS.up hB0 (Nat.le_refl _))
  clear hS hgood hh hin hB0
  generalize lossOf l m flow u = res at *
  have hfs : Fence.wide.fn 71 := trivial
  have hfi : Fence.wide.fn 73 := trivial
  generalize hn : l.length = n at *
  have HN := Lib.hid hn
  clear hn
  unfold mudV
  refine (callsIn_wide (n := 10)).1 ?_
  refine callsIn_of_wp_marks Try.func50 rfl trivial ?_ rfl
  simp only [Try.ntmps50, List.size_toArray, List.length_cons, List.length_nil, Nat.reduceAdd, Nat.reduceSub, Array.replicate_succ, Array.replicate_zero, List.push_toArray, List.append_toArray, List.nil_append, List.cons_append]
  gi_wp2_with fail
  rw [HW0.out]
  gi_wp2_with fail
  refine (callsIn_wide.2 HI.out).mono ?_
  rintro e w1 ⟨rfl, hb1⟩
  obtain ⟨w3, hw3⟩ : ∃ w3, (w1.alloc (.cells #[.int .i64 0, .int .i64 0] 34)).alloc (.cells #[.slice A n c] 25) = w3 := ⟨_, rfl⟩
  have bo : Box w3 w1.heap.size 34 #[.int .i64 0, .int .i64 0] := by rw [← hw3]; exact (Box.new _ _ _ rfl).alloc _
  have bh : Box w3 (w1.heap.size + 1) 25 #[.slice A n c] := by rw [← hw3]; exact Box.new _ _ _ (by simp)
  have b13 : Below w1.heap.size w1 w3 := by rw [← hw3]; exact ((Below.refl _ _).alloc (Nat.le_refl _) _).alloc (by simp) _
  have hs3 : w3.heap.size = w1.heap.size + 1 + 1 := by rw [← hw3]; simp
  have HW3 := Lib.hid hw3
  have HS3 := Lib.hid hs3
  have B01 := Lib.hid (B0.out.under hb1)
  have B11 := Lib.hid ((B1.out.under hb1).under b13)
  have B21 := Lib.hid ((B2.out.under hb1).under b13)
  have B31 := Lib.hid ((B3.out.under hb1).under b13)
  have B41 := Lib.hid ((B4.out.under hb1).under b13)
  have B51 := Lib.hid ((B5.out.under hb1).under b13)
  have HB1 := Lib.hid (HB0.out.trans (hb1.mono HB0.out.size))
  have HB3 := Lib.hid (HB1.out.trans (b13.mono HB1.out.size))
  have hlt1 : w.heap.size + 1 + 1 + 1 + 1 + 1 < w1.heap.size := (B5.out.under hb1).lt
  have hlt0 : w.heap.size < w1.heap.size := B01.out.lt
  have HSR := Lib.hid (HS.out.up (hb1.mono HB0.out.size) (Nat.le_refl _))
  clear hw3 hs3 q0 q3
  have q0 := B01.out.cell 0
  simp only [List.getElem?_toArray, List.getElem?_cons_zero] at q0
  gi_wp2_with fail
  refine (callsIn_wide.2 (fluid_places _ _)).mono ?_
  rintro e w' ⟨rfl, rfl⟩
  rw [HW3.out]
  gi_wp2_with fail
  have hfs1 : Fence.wide.fn 94 := trivial
  refine range_idx2 rfl (by omega) (gf := 94) (lb := #[.pointer (some ⟨w1.heap.size + 1, 0, none⟩)]) rfl trivial enters_places1
    (places_iter 9 (w1.heap.size + 1) w.heap.size A c l HG.out (by omega)) (fun _ => rfl)
    ?rd ?rdc
    (fun k W => Box W (w.heap.size + 1) 47 #[.int .i64 m.Yield, .int .i64 m.Visc] ∧ Box W (w.heap.size + 1 + 1) 2 #[.int .i64 flow] ∧ Box W (w.heap.size + 1 + 1 + 1) 2 #[.int .i64 u] ∧ Box W (w.heap.size + 1 + 1 + 1 + 1) 34 #[.int .i64 0, .int .i64 0] ∧ Box W (w.heap.size + 1 + 1 + 1 + 1 + 1) 4 #[.bool false] ∧ Box W w1.heap.size 34 #[.int .i64 (sumFrom (lossLo l m flow u) 0 k), .int .i64 (sumFrom (lossHi l m flow u) 0 k)] ∧ Below w.heap.size w W ∧ allFlow l m flow k = true)
    (fun c _ W => c = Code.ret ∧ Box W (w.heap.size + 1 + 1 + 1 + 1) 34 #[.int .i64 0, .int .i64 0] ∧ Box W (w.heap.size + 1 + 1 + 1 + 1 + 1) 4 #[.bool false] ∧ Below w.heap.size w W ∧ allFlow l m flow n = false) ?ic ?ixc ?i0
    (fun k a' W => ∃ bs, w1.heap.size + 1 < bs ∧ Box W bs 29 #[.int .i64 (sg l k).Long, .int .i64 (sg l k).Rise, .int .i64 (sg l k).Area, .int .i64 (sg l k).Gap] ∧ a' = { tmps := #[.agg #[.slice A n c], .agg #[.int .i64 m.Yield, .int .i64 m.Visc], .int .i64 flow, .int .i64 u, .pointer (some ⟨w.heap.size, 0, none⟩), .pointer (some ⟨w.heap.size + 1, 0, none⟩), .pointer (some ⟨w.heap.size + 1 + 1, 0, none⟩), .pointer (some ⟨w.heap.size + 1 + 1 + 1, 0, none⟩), .pointer (some ⟨w.heap.size + 1 + 1 + 1 + 1, 0, none⟩), .pointer (some ⟨w.heap.size + 1 + 1 + 1 + 1 + 1, 0, none⟩), .pointer (some ⟨w1.heap.size, 0, none⟩), .int .i64 (sizeUp l k), .pointer (some ⟨bs, 0, none⟩), undef, undef, undef, .agg #[.slice A n c], .int .i64 u, .bool true, .bool false, undef, .agg #[.slice A n c], .func (.func 94) #[] #[.pointer (some ⟨w1.heap.size + 1, 0, none⟩)], .int .i64 (sizeUp l k), segV (sg l k), undef, undef, undef, undef, undef, undef, undef, undef, undef, undef, undef, undef, undef, undef, undef, undef, undef, undef, undef, undef, undef, undef, undef, undef, undef, undef, undef, undef, undef, undef, undef, undef, undef, undef, undef, undef, undef, undef, undef, undef, undef], defers := [] })
    ?axc ?assign ?body ?done ?stop
  case rd => exact ⟨by have := bh.cell 0; rw [HN.out]; exact this, HSR.out.up (b13.mono (by omega)) (Nat.le_refl _)⟩
  case rdc => exact fun W W' h hc => h.calm hc
  case ic => exact fun k W W' h hc => ⟨h.1.calm hc, h.2.1.calm hc, h.2.2.1.calm hc, h.2.2.2.1.calm hc, h.2.2.2.2.1.calm hc, h.2.2.2.2.2.1.calm hc, below_calm h.2.2.2.2.2.2.1 hc (by rw [HS3.out]; omega), h.2.2.2.2.2.2.2⟩
  case ixc => exact fun _ _ _ _ h hc => ⟨h.1, h.2.1.calm hc, h.2.2.1.calm hc, below_calm h.2.2.2.1 hc (by rw [HS3.out]; omega), h.2.2.2.2⟩
  case i0 => exact ⟨B11.out, B21.out, B31.out, B41.out, B51.out, bo, HB3.out, rfl⟩
  case axc =>
    rintro k a' W W' ⟨bs, h1, h2, h3⟩ hc
    exact ⟨bs, h1, h2.calm hc, h3⟩
  case assign =>
    rintro L k W K hk hi hr hsz hK
    rw [HS3.out] at hsz
    have HKK := Lib.hid hK
    clear hK hi hr
    simp only [segEnc, segV]
    gi_wp2_with fail
    refine HKK.out _ _ ((Below.refl _ _).alloc (Nat.le_refl _) _) ⟨W.heap.size, by omega, Box.new _ _ _ rfl, rfl⟩
  case body =>
    rintro L k a' W0 W hk hi0 hlt0' hca ⟨c1, c2, c3, c4, c5, co, hB, haf⟩ hr ⟨bs, hbs, cs, rfl⟩ hsz
    have hfg : Fence.wide.fn 37 := trivial
    have hkn : k < n := by rw [← HN.out]; exact hk
    have HGR := Lib.hid (fun w => CallsIn.inRound (F := Fence.wide) L ((callsIn_wide (n := 7)).2 (fluid_Gradient (sg l k) m flow w)))
    have HLS := Lib.hid (loss_step HG.out m flow u hk)
    have HUP := Lib.hid (loss_upto HG.out m flow u k (by omega))
    have C1 := Lib.hid c1
    have C2 := Lib.hid c2
    have C3 := Lib.hid c3
    have C4 := Lib.hid c4
    have C5 := Lib.hid c5
    have CO := Lib.hid co
    have CS := Lib.hid cs
    have HB := Lib.hid hB
    have HR := Lib.hid hr
    have HAF := Lib.hid haf
    have HK := Lib.hid hk
    obtain ⟨q0, q1, q2, q3⟩ := load_agg4 cs
    obtain ⟨q4, q5⟩ := mud_box c1
    have q6 := (show W.cell? ⟨w.heap.size + 1 + 1, 0, none⟩ = some (.int .i64 flow) from c2.cell 0)
    clear c1 c2 c3 c4 c5 co cs hB hr haf hi0 hca hk
    have HSZ := Lib.hid (fun w => fluid_size (sg l k) w (HG.out.fair k HK.out) (HG.out.seg (k := k) HK.out).1)
    have HU2 := Lib.hid (HG.out.ups k (by have := HK.out; omega))
    have HSG := Lib.hid (HG.out.seg (k := k) HK.out)
    have har := (HG.out.fair k HK.out).area0
    have har2 := (HG.out.fair k HK.out).area1
    unfold mudV at HGR
    unfold segV at *
    have hgr := grad_nonneg (sg l k) m flow
    have hd1 : Hid (lossLo l m flow u k = (gradient (sg l k) m flow).1 * (aboveSeg l u k / (sg l k).Area)) := rfl
    have hd2 : Hid (lossHi l m flow u k = (gradient (sg l k) m flow).1 * upDiv (aboveSeg l u k) (sg l k).Area) := rfl
    have hd3 : Hid (aboveSeg l u k = max 0 (min (segSize (sg l k)) (sizeUp l k + segSize (sg l k) - u))) := rfl
    have hd4 : Hid (allFlow l m flow (k + 1) = (allFlow l m flow k && (gradient (sg l k) m flow).2)) := allFlow_step l m flow k
    have hd5 : Hid ((gradient (sg l k) m flow).2 = false → allFlow l m flow l.length = false) := fun h => allFlow_not HK.out h
    generalize hgg : gradient (sg l k) m flow = gg at *
    obtain ⟨g, is⟩ := gg
    clear hgg
    cases is
    · simp only [] at HGR
      gi_wp2_with fail
      refine (HGR.out _).mono ?_
      rintro e w5 ⟨rfl, hb5⟩
      have D4 := Lib.hid (C4.out.under hb5)
      have D5 := Lib.hid (C5.out.under hb5)
      have HB5 := Lib.hid hb5
      have f0 := D4.out.frozen 0
      have f1 := D4.out.frozen 1
      have f2 := D5.out.frozen 0
      have x0 := (show w5.cell? ⟨w.heap.size + 1 + 1 + 1 + 1, 0, none⟩ = some (.int .i64 0) from D4.out.cell 0)
      have x1 := (show w5.cell? ⟨w.heap.size + 1 + 1 + 1 + 1, 1, none⟩ = some (.int .i64 0) from D4.out.cell 1)
      have x2 := (show w5.cell? ⟨w.heap.size + 1 + 1 + 1 + 1 + 1, 0, none⟩ = some (.bool false) from D5.out.cell 0)
      clear hb5 q0 q1 q2 q3 q4 q5 q6
      gi_wp2_with fail
      refine ⟨keeps_trans (keeps_below HB5.out) (keeps_trans (keeps_trans (keeps_set _ _ _) (keeps_set _ _ _)) (keeps_set _ _ _)), rfl, ?_, ?_, ?_, by rw [← HN.out]; exact hd5.out (by simp)⟩
      · simpa using ((D4.out.set_ 0 (.int .i64 0)).set_ 1 (.int .i64 0)).far (p := ⟨w.heap.size + 1 + 1 + 1 + 1 + 1, 0, none⟩) (by simp) (.bool false)
      · simpa using ((D5.out.far (p := ⟨w.heap.size + 1 + 1 + 1 + 1, 0, none⟩) (by simp) (.int .i64 0)).far (p := ⟨w.heap.size + 1 + 1 + 1 + 1, 1, none⟩) (by simp) (.int .i64 0)).set_ 0 (.bool false)
      · have h1 := HB.out.trans (HB5.out.mono HB.out.size)
        exact ((h1.setCell (p := ⟨w.heap.size + 1 + 1 + 1 + 1, 0, none⟩) (by simp; omega) _).setCell (p := ⟨w.heap.size + 1 + 1 + 1 + 1, 1, none⟩) (by simp; omega) _).setCell (p := ⟨w.heap.size + 1 + 1 + 1 + 1 + 1, 0, none⟩) (by simp; omega) _
    simp only [] at HGR
    gi_wp2_with fail
    refine (HGR.out _).mono ?_
    rintro e w5 ⟨rfl, hb5⟩
    have HB5 := Lib.hid hb5
    clear hb5 q0 q1 q2 q3 q4 q5 q6
    gi_wp2_with fail
    have HSS := Lib.hid (fun W' (h : Below W.heap.size W W') => (⟨(load_agg4 (CS.out.under h)).1, (load_agg4 (CS.out.under h)).2.1, (load_agg4 (CS.out.under h)).2.2.1, (load_agg4 (CS.out.under h)).2.2.2, (C3.out.under h).cell 0⟩ : W'.cell? ⟨bs, 0, none⟩ = some (.int .i64 (sg l k).Long) ∧ W'.cell? ⟨bs, 1, none⟩ = some (.int .i64 (sg l k).Rise) ∧ W'.cell? ⟨bs, 2, none⟩ = some (.int .i64 (sg l k).Area) ∧ W'.cell? ⟨bs, 3, none⟩ = some (.int .i64 (sg l k).Gap) ∧ W'.cell? ⟨w.heap.size + 1 + 1 + 1, 0, none⟩ = some (.int .i64 u)))
    have HB6 := Lib.hid (HB5.out.trans ((Below.refl w5.heap.size w5).drew.mono HB5.out.size))
    refine region_round mixed (by kernel_rfl) ?_
    refine AnyMid.any (q := 1) (S := fun (_ : Bool) (W' : World) => W'.cell? ⟨bs, 0, none⟩ = some (.int .i64 (sg l k).Long) ∧ W'.cell? ⟨bs, 1, none⟩ = some (.int .i64 (sg l k).Rise) ∧ W'.cell? ⟨bs, 2, none⟩ = some (.int .i64 (sg l k).Area) ∧ W'.cell? ⟨bs, 3, none⟩ = some (.int .i64 (sg l k).Gap) ∧ W'.cell? ⟨w.heap.size + 1 + 1 + 1, 0, none⟩ = some (.int .i64 u)) (Z := fun _ => false) ?_
    refine AnyMid.take (fun W' : World => W'.cell? ⟨bs, 0, none⟩ = some (.int .i64 (sg l k).Long) ∧ W'.cell? ⟨bs, 1, none⟩ = some (.int .i64 (sg l k).Rise) ∧ W'.cell? ⟨bs, 2, none⟩ = some (.int .i64 (sg l k).Area) ∧ W'.cell? ⟨bs, 3, none⟩ = some (.int .i64 (sg l k).Gap) ∧ W'.cell? ⟨w.heap.size + 1 + 1 + 1, 0, none⟩ = some (.int .i64 u)) (i := 0) (v := .agg #[.int .i64 (sg l k).Long, .int .i64 (sg l k).Rise, .int .i64 (sg l k).Area, .int .i64 (sg l k).Gap]) [] 20 (fun _ h => by cases h) (fun _ h => h) (.inr fun _ h => h) (HSS.out _ HB6.out) rfl (by decide +kernel) (fun _ _ _ h => h) (Or.inl ⟨by simp [Region.wanted], fun w' hw' => by (obtain ⟨s0, s1, s2, s3, s4⟩ := hw'; go_simp)⟩) ?_
    refine AnyMid.take (fun W' : World => W'.cell? ⟨bs, 0, none⟩ = some (.int .i64 (sg l k).Long) ∧ W'.cell? ⟨bs, 1, none⟩ = some (.int .i64 (sg l k).Rise) ∧ W'.cell? ⟨bs, 2, none⟩ = some (.int .i64 (sg l k).Area) ∧ W'.cell? ⟨bs, 3, none⟩ = some (.int .i64 (sg l k).Gap) ∧ W'.cell? ⟨w.heap.size + 1 + 1 + 1, 0, none⟩ = some (.int .i64 u)) (i := 2) (v := .int .i64 (sizeUp l k)) [] 20 (fun _ h => by cases h) (fun _ h => h) (.inr fun _ h => h) (HSS.out _ HB6.out) rfl (by decide +kernel) (fun _ _ _ h => h) (Or.inl ⟨by simp [Region.wanted], fun w' hw' => by (obtain ⟨s0, s1, s2, s3, s4⟩ := hw'; go_simp)⟩) ?_
    refine AnyMid.take (fun W' : World => W'.cell? ⟨bs, 0, none⟩ = some (.int .i64 (sg l k).Long) ∧ W'.cell? ⟨bs, 1, none⟩ = some (.int .i64 (sg l k).Rise) ∧ W'.cell? ⟨bs, 2, none⟩ = some (.int .i64 (sg l k).Area) ∧ W'.cell? ⟨bs, 3, none⟩ = some (.int .i64 (sg l k).Gap) ∧ W'.cell? ⟨w.heap.size + 1 + 1 + 1, 0, none⟩ = some (.int .i64 u)) (i := 3) (v := .agg #[.int .i64 (sg l k).Long, .int .i64 (sg l k).Rise, .int .i64 (sg l k).Area, .int .i64 (sg l k).Gap]) [] 20 (fun _ h => by cases h) (fun _ h => h) (.inr fun _ h => h) (HSS.out _ HB6.out) rfl (by decide +kernel) (fun _ _ _ h => h) (Or.inl ⟨by simp [Region.wanted], fun w' hw' => by (obtain ⟨s0, s1, s2, s3, s4⟩ := hw'; go_simp)⟩) ?_
    refine AnyMid.take (fun W' : World => W'.cell? ⟨bs, 0, none⟩ = some (.int .i64 (sg l k).Long) ∧ W'.cell? ⟨bs, 1, none⟩ = some (.int .i64 (sg l k).Rise) ∧ W'.cell? ⟨bs, 2, none⟩ = some (.int .i64 (sg l k).Area) ∧ W'.cell? ⟨bs, 3, none⟩ = some (.int .i64 (sg l k).Gap) ∧ W'.cell? ⟨w.heap.size + 1 + 1 + 1, 0, none⟩ = some (.int .i64 u)) (i := 6) (v := .int .i64 u) [] 20 (fun _ h => by cases h) (fun _ h => h) (.inr fun _ h => h) (HSS.out _ HB6.out) rfl (by decide +kernel) (fun _ _ _ h => h) (Or.inl ⟨by simp [Region.wanted], fun w' hw' => by (obtain ⟨s0, s1, s2, s3, s4⟩ := hw'; go_simp)⟩) ?_
    refine AnyMid.only (i := 1) (by decide +kernel) rfl rfl fun K hK => ?_
    go_simp
    refine (HSZ.out _).mono ?_
    rintro e w7 ⟨rfl, hb7⟩
    have HB7 := Lib.hid (HB6.out.trans (hb7.mono HB6.out.size))
    clear hb7
    refine hK _ _ (fun _ => HSS.out _ HB7.out) ?_
    clear hK
    refine AnyMid.only (i := 4) (by decide +kernel) rfl rfl fun K hK => ?_
    go_simp
    refine (HSZ.out _).mono ?_
    rintro e w8 ⟨rfl, hb8⟩
    have HB8 := Lib.hid (HB7.out.trans (hb8.mono HB7.out.size))
    clear hb8
    refine hK _ _ (fun _ => HSS.out _ HB8.out) ?_
    clear hK
    obtain ⟨u0, u1⟩ := HUB.out
    obtain ⟨_, _, _, _, p0, p1⟩ := HU2.out
    obtain ⟨_, z0, z1⟩ := HSG.out
    have p2 : 0 ≤ sizeUp l k := by omega
    clear p0
    generalize sizeUp l k = SU at *
    generalize segSize (sg l k) = SZ at *
    have hwa : IntKind.i64.wrap (SU + SZ) = SU + SZ := IntWalk.i64_in _ (by omega)
    have hwb : IntKind.i64.wrap (SU + SZ - u) = SU + SZ - u := IntWalk.i64_in _ (by omega)
    refine AnyMid.only (i := 5) (by decide +kernel) rfl rfl fun K hK => ?_
    go_simp
    refine hK _ _ (fun _ => HSS.out _ HB8.out) ?_
    clear hK
    refine AnyMid.only (i := 7) (by decide +kernel) rfl rfl fun K hK => ?_
    go_simp
    refine hK _ _ (fun _ => HSS.out _ HB8.out) ?_
    clear hK
    refine AnyMid.only (i := 8) (by decide +kernel) rfl rfl fun K hK => ?_
    go_simp
    generalize hmn : (if SU + SZ - u < SZ then SU + SZ - u else SZ) = mn
    have hmn2 : mn = min SZ (SU + SZ - u) := by rw [← hmn]; omega
    clear hmn
    refine hK _ _ (fun _ => HSS.out _ HB8.out) ?_
    clear hK
    rw [← hmn2] at hd3
    clear hmn2
    refine AnyMid.only (i := 9) (by decide +kernel) rfl rfl fun K hK => ?_
    go_simp
    generalize hmx : (if 0 < mn then mn else 0) = ab
    have hmx2 : ab = max 0 mn := by rw [← hmx]; omega
    clear hmx
    refine hK _ _ (fun _ => HSS.out _ HB8.out) ?_
    clear hK
    rw [← hmx2] at hd3
    clear hmx2
    refine AnyMid.only (i := 10) (by decide +kernel) rfl rfl fun K hK => ?_
    go_simp
    refine hK _ _ (fun _ => HSS.out _ HB8.out) ?_
    clear hK
    refine AnyMid.done (by decide +kernel) ⟨by simp, ?_⟩
    rw [hd3.out] at HLS hd1 hd2
    clear hwa hwb HSZ HU2 HSG
    obtain ⟨a0, a1, a2, a3, a4, a5, a6, a7⟩ := HLS.out
    rw [hd1.out] at a4 a5
    rw [hd2.out] at a6 a7
    have G8 := CO.out.under HB8.out
    have x0 := (show w8.cell? ⟨w1.heap.size, 0, none⟩ = some (.int .i64 (sumFrom (lossLo l m flow u) 0 k)) from G8.cell 0)
    have x1 := (show w8.cell? ⟨w1.heap.size, 1, none⟩ = some (.int .i64 (sumFrom (lossHi l m flow u) 0 k)) from G8.cell 1)
    have f0 := G8.frozen 0
    have f1 := G8.frozen 1
    obtain ⟨s0, s1, s2, s3, s4⟩ := HSS.out _ HB8.out
    obtain ⟨b0, b1, b2, b3⟩ := HUP.out
    obtain ⟨g0, g1⟩ := hgr
    have hlo := Lib.hid (up_step (lossLo l m flow u) k)
    have hhi := Lib.hid (up_step (lossHi l m flow u) k)
    rw [hd1.out] at hlo
    rw [hd2.out] at hhi
    have hal : 0 ≤ ab ∧ ab ≤ 5242880000 := by
      have h := above_bound HG.out u HK.out
      have h2 := (HG.out.seg (k := k) HK.out).2.2
      rw [hd3.out] at h
      omega
    obtain ⟨ab0, ab1⟩ := hal
    have hlong := (HG.out.seg (k := k) HK.out).1
    have HUPC := Lib.hid (fun w => fluid_up ab (sg l k).Area w ab0 (by omega) har (by omega))
    clear HLS hd1 hd2 hd3 HUP
    generalize sumFrom (lossLo l m flow u) 0 k = LO at *
    generalize sumFrom (lossHi l m flow u) 0 k = HI at *
    generalize (sg l k).Area = ar at *
    generalize (sg l k).Long = lg at *
    try simp only [] at a4 a5 a6 a7 hlo hhi g0 g1
    have hz : (ar == 0) = false := beq_eq_false_iff_ne.2 (by omega)
    have hz2 : ¬ ar = 0 := by omega
    have hwq : IntKind.i64.wrap (ab.tdiv ar) = ab / ar := by rw [Int.tdiv_eq_ediv_of_nonneg ab0]; exact IntWalk.i64_in _ (by omega)
    generalize ab / ar = q at *
    generalize upDiv ab ar = ud at *
    have hwm : IntKind.i64.wrap (g * q) = g * q := IntWalk.i64_in _ (by omega)
    have hwl : IntKind.i64.wrap (LO + g * q) = LO + g * q := IntWalk.i64_in _ (by omega)
    have hwm2 : IntKind.i64.wrap (g * ud) = g * ud := IntWalk.i64_in _ (by omega)
    have hwl2 : IntKind.i64.wrap (HI + g * ud) = HI + g * ud := IntWalk.i64_in _ (by omega)
    gi_wp2_with fail
    refine region_tail 10 mixed (by kernel_rfl) (by kernel_rfl) ?_
    simp only [List.take_succ_cons, List.take_zero, List.drop_succ_cons, List.drop_zero]
    repeat still_step
    refine wpStill_nil ?_
    gi_wp2_with fail
    have G9 : Box (w8.setCell ⟨w1.heap.size, 0, none⟩ (.int .i64 (LO + g * q))).drew w1.heap.size 34 #[.int .i64 (LO + g * q), .int .i64 HI] := by simpa using (G8.set_ 0 (.int .i64 (LO + g * q))).drew
    have CS9 := ((CS.out.under HB8.out).far (p := ⟨w1.heap.size, 0, none⟩) (by simp; omega) (.int .i64 (LO + g * q))).drew
    have hsz8 : w1.heap.size < w8.heap.size := G8.lt
    obtain ⟨w9, hw9⟩ : ∃ w9, (w8.setCell ⟨w1.heap.size, 0, none⟩ (.int .i64 (LO + g * q))).drew = w9 := ⟨_, rfl⟩
    rw [hw9] at G9 CS9
    rw [hw9]
    have HW9 := Lib.hid hw9
    have G9H := Lib.hid G9
    clear x0 x1 f0 f1 s0 s1 s2 s3 s4 hw9
    have x1 := (show w9.cell? ⟨w1.heap.size, 1, none⟩ = some (.int .i64 HI) from G9.cell 1)
    have f1 := G9.frozen 1
    obtain ⟨s0, s1, s2, s3⟩ := load_agg4 CS9
    refine region_tail 10 mixed (by kernel_rfl) (by kernel_rfl) ?_
    simp only [List.take_succ_cons, List.take_zero, List.drop_succ_cons, List.drop_zero]
    repeat still_step
    still_call (quiet_of (HUPC.out _))
    repeat still_step
    refine wpStill_nil ?_
    gi_wp2_with fail
    have hw9 := HW9.out
    subst hw9
    have hBB := HB.out.trans (HB8.out.mono HB.out.size)
    refine ⟨keeps_trans (keeps_below HB8.out) (keeps_trans (keeps_drew (keeps_set w8 ⟨w1.heap.size, 0, none⟩ (.int .i64 (LO + g * q)))) (keeps_drew (keeps_set (w8.setCell ⟨w1.heap.size, 0, none⟩ (.int .i64 (LO + g * q))).drew ⟨w1.heap.size, 1, none⟩ (.int .i64 (HI + g * ud))))), ⟨?_, ?_, ?_, ?_, ?_, ?_, ?_, ?_⟩, ?_, ?_⟩
    · exact (((C1.out.under HB8.out).far (p := ⟨w1.heap.size, 0, none⟩) (by simp; omega) _).drew.far (p := ⟨w1.heap.size, 1, none⟩) (by simp; omega) _).drew
    · exact (((C2.out.under HB8.out).far (p := ⟨w1.heap.size, 0, none⟩) (by simp; omega) _).drew.far (p := ⟨w1.heap.size, 1, none⟩) (by simp; omega) _).drew
    · exact (((C3.out.under HB8.out).far (p := ⟨w1.heap.size, 0, none⟩) (by simp; omega) _).drew.far (p := ⟨w1.heap.size, 1, none⟩) (by simp; omega) _).drew
    · exact (((C4.out.under HB8.out).far (p := ⟨w1.heap.size, 0, none⟩) (by simp; omega) _).drew.far (p := ⟨w1.heap.size, 1, none⟩) (by simp; omega) _).drew
    · exact (((C5.out.under HB8.out).far (p := ⟨w1.heap.size, 0, none⟩) (by simp; omega) _).drew.far (p := ⟨w1.heap.size, 1, none⟩) (by simp; omega) _).drew
    · rw [hlo.out, hhi.out]
      simpa using (G9H.out.set_ 1 (.int .i64 (HI + g * ud))).drew
    · exact ((hBB.setCell (p := ⟨w1.heap.size, 0, none⟩) (by simp; omega) _).drew.setCell (p := ⟨w1.heap.size, 1, none⟩) (by simp; omega) _).drew
    · rw [hd4.out, HAF.out]; simp
    · exact (((HR.out.under HB8.out).set_ (p := ⟨w1.heap.size, 0, none⟩) (by simp; omega) (by simp) _).drew.set_ (p := ⟨w1.heap.size, 1, none⟩) (by simp; omega) (by simp) _).drew
    · exact (((Mid.below HB8.out).set (p := ⟨w1.heap.size, 0, none⟩) (by rw [HS3.out] at hlt0'; simp; omega) _).drew.set (p := ⟨w1.heap.size, 1, none⟩) (by rw [HS3.out] at hlt0'; simp; omega) _).drew
  case done =>
    rintro W ⟨c1, c2, c3, c4, c5, co, hB, haf⟩ hK
    have x0 := (show W.cell? ⟨w1.heap.size, 0, none⟩ = some (.int .i64 (sumFrom (lossLo l m flow u) 0 l.length)) from co.cell 0)
    have x1 := (show W.cell? ⟨w1.heap.size, 1, none⟩ = some (.int .i64 (sumFrom (lossHi l m flow u) 0 l.length)) from co.cell 1)
    have v0 := (show W.cell? ⟨w.heap.size + 1 + 1 + 1 + 1, 0, none⟩ = some (.int .i64 0) from c4.cell 0)
    have v1 := (show W.cell? ⟨w.heap.size + 1 + 1 + 1 + 1, 1, none⟩ = some (.int .i64 0) from c4.cell 1)
    have v2 := (show W.cell? ⟨w.heap.size + 1 + 1 + 1 + 1 + 1, 0, none⟩ = some (.bool false) from c5.cell 0)
    have f0 := c4.frozen 0
    have f1 := c4.frozen 1
    have f2 := c5.frozen 0
    rw [HN.out] at haf
    have hsT2 := Lib.hid (hsT.out haf)
    have C4 := Lib.hid c4
    have C5 := Lib.hid c5
    have HB := Lib.hid hB
    have HKK := Lib.hid hK
    clear haf c1 c2 c3 c4 c5 co hB hK
    rw [HN.out] at x0 x1
    generalize sumFrom (lossLo l m flow u) 0 n = LO at *
    generalize sumFrom (lossHi l m flow u) 0 n = HI at *
    gi_wp2_with fail
    have hK1 : (((W.setCell ⟨w.heap.size + 1 + 1 + 1 + 1, 0, none⟩ (.int .i64 LO)).setCell ⟨w.heap.size + 1 + 1 + 1 + 1, 1, none⟩ (.int .i64 HI)).setCell ⟨w.heap.size + 1 + 1 + 1 + 1 + 1, 0, none⟩ (.bool true)).heap[w3.heap.size]? = some (.deferred (some [])) :=
      (Below.heap_setCell _ _ _ _ (by rw [HS3.out]; simp; omega)).trans ((Below.heap_setCell _ _ _ _ (by rw [HS3.out]; simp; omega)).trans ((Below.heap_setCell _ _ _ _ (by rw [HS3.out]; simp; omega)).trans HKK.out))
    refine ⟨by simp, .inl ⟨_, _, rfl, run_takeDeferred hK1, ?_⟩⟩
    have hcm := Calm.put (B := 0) (.deferred none) (Nat.zero_le _) hK1 rfl
    have k4 := (((C4.out.set_ 0 (.int .i64 LO)).set_ 1 (.int .i64 HI)).far (p := ⟨w.heap.size + 1 + 1 + 1 + 1 + 1, 0, none⟩) (by simp) (.bool true)).calm hcm
    have k5 := (((C5.out.far (p := ⟨w.heap.size + 1 + 1 + 1 + 1, 0, none⟩) (by simp) (.int .i64 LO)).far (p := ⟨w.heap.size + 1 + 1 + 1 + 1, 1, none⟩) (by simp) (.int .i64 HI)).set_ 0 (.bool true)).calm hcm
    refine ⟨_, results_loss rfl _ _ (w.heap.size + 1 + 1 + 1 + 1) (w.heap.size + 1 + 1 + 1 + 1 + 1) LO HI true rfl rfl (by simpa using k4) (by simpa using k5), by rw [hsT2.out], ?_⟩
    exact (((HB.out.setCell (p := ⟨w.heap.size + 1 + 1 + 1 + 1, 0, none⟩) (by simp; omega) _).setCell (p := ⟨w.heap.size + 1 + 1 + 1 + 1, 1, none⟩) (by simp; omega) _).setCell (p := ⟨w.heap.size + 1 + 1 + 1 + 1 + 1, 0, none⟩) (by simp; omega) _).trans (belowK_b (w := w) (Nat.le_refl _) _ w3.heap.size _ _ (by rw [HS3.out]; omega) hK1 rfl rfl)
  case stop =>
    rintro c k W _ ⟨rfl, h1, h2, hB, haf⟩ hK
    have hsF2 := Lib.hid (hsF.out haf)
    have HB := Lib.hid hB
    clear haf hB
    gi_wp2_with fail
    refine ⟨by simp, .inl ⟨_, _, rfl, run_takeDeferred hK, ?_⟩⟩
    have hcm := Calm.put (B := 0) (.deferred none) (Nat.zero_le _) hK rfl
    exact ⟨_, results_loss rfl _ _ (w.heap.size + 1 + 1 + 1 + 1) (w.heap.size + 1 + 1 + 1 + 1 + 1) 0 0 false rfl rfl (h1.calm hcm) (h2.calm hcm), by rw [hsF2.out], HB.out.trans (belowK_b (w := w) (Nat.le_refl _) W w3.heap.size _ _ (by rw [HS3.out]; omega) hK rfl rfl)⟩

end Go.Proofs.Ytgcfplkfclapiaa
