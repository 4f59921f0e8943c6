/- Walks of the package fluid: the volume of a hole. -/
import Derived.Test.YtnhnheigdlnokaaFPlaces
namespace Go.Proofs.Ytnhnheigdlnokaa
open Go.RowKit Go.Shelf Mpl
attribute [local go_sem] Oper.semAt_some

theorem enters_places1 : ∀ args w, (callFunc 28 args).run Try.prog w = .ok (.enter 28 args) w := enters_of Try.func28 (by kernel_rfl) rfl

theorem segs_place {l : List Seg} {w : World} {B : Nat} {A : Option Addr} (h : Segs w B A l) {k : Nat} (hk : k < l.length) : ∃ b off, A = some ⟨b, off, none⟩ ∧ b < B := by
  obtain ⟨b, off, h1, h2, _⟩ := h (by omega)
  exact ⟨b, off, h1, h2⟩

set_option maxHeartbeats 2000000 in
set_option maxRecDepth 100000 in
theorem fluid_volume (v0 : Value) (l : List Seg) (w : World) (hv : HoleV w w.heap.size v0 l) (hg : GoodHole l) :
    Calls Try.prog 10 #[v0] w fun e w' => e = .returned (.int .i64 (sizeUp l l.length)) ∧ Below w.heap.size w w' := by
  obtain ⟨A, c, rfl, hS⟩ := hv
  have HS := Lib.hid hS
  have HG := Lib.hid hg
  have hfew := hg.few
  clear hS hg
  have hfs : Fence.wide.fn 22 := trivial
  generalize hn : l.length = n at *
  have HN := Lib.hid hn
  clear hn
  obtain ⟨w3, hw3⟩ : ∃ w3, (((w.alloc (.cells #[.slice A n c] 27)).alloc (.cells #[.int .i64 0] 2)).alloc (.cells #[.slice A n c] 27)) = w3 := ⟨_, rfl⟩
  have b0 : Box w3 w.heap.size 27 #[.slice A n c] := by rw [← hw3]; exact ((Box.new w _ _ rfl).alloc _).alloc _
  have b1 : Box w3 (w.heap.size + 1) 2 #[.int .i64 0] := by rw [← hw3]; exact (Box.new _ _ _ (by simp)).alloc _
  have b2 : Box w3 (w.heap.size + 1 + 1) 27 #[.slice A n c] := by rw [← hw3]; exact Box.new _ _ _ (by simp)
  have hB3 : Below w.heap.size w w3 := by rw [← hw3]; exact (by repeat (first | exact Below.refl _ _ | assumption | refine Below.setCell ?_ (by first | (simp; done) | (simp; omega)) _ | refine belowDrewN ?_ _ | refine Below.drew ?_ | refine Below.alloc ?_ (by first | (simp; done) | (simp; omega)) _))
  have hs3 : w3.heap.size = w.heap.size + 1 + 1 + 1 := by rw [← hw3]; simp
  have HW3 := Lib.hid hw3
  have HS3 := Lib.hid hs3
  clear hw3 hs3
  refine (callsIn_wide (n := 10)).1 ?_
  refine callsIn_of_wp_marks Try.func10 rfl trivial ?_ rfl
  simp only [Try.ntmps10, List.size_toArray, List.length_cons, List.length_nil, Nat.reduceAdd, Nat.reduceSub, Array.replicate_succ, Array.replicate_zero, List.push_toArray, List.append_toArray, List.nil_append, List.cons_append]
  gi_wp2_with fail
  refine (callsIn_wide.2 (fluid_places _ _)).mono ?_
  rintro e w' ⟨rfl, rfl⟩
  rw [HW3.out]
  gi_wp2_with fail
  have hfs1 : Fence.wide.fn 28 := trivial
  refine range_idx2 rfl (by omega) (gf := 28) (lb := #[.pointer (some ⟨w.heap.size + 1 + 1, 0, none⟩)]) rfl trivial enters_places1
    (places_iter 9 (w.heap.size + 1 + 1) w.heap.size A c l HG.out (by omega)) (fun _ => rfl)
    ?rd ?rdc
    (fun k W => Box W (w.heap.size + 1) 2 #[.int .i64 (sizeUp l k)] ∧ Below w.heap.size w W)
    (fun _ _ _ => False) ?ic ?ixc ?i0
    (fun k a' W => ∃ bs, w.heap.size + 1 + 1 < bs ∧ Box W bs 24 #[.int .i64 (sg l k).Long, .int .i64 (sg l k).Rise, .int .i64 (sg l k).Area, .int .i64 (sg l k).Gap] ∧ a' = { tmps := #[.agg #[.slice A n c], .pointer (some ⟨w.heap.size, 0, none⟩), .int .i64 0, .pointer (some ⟨w.heap.size + 1, 0, none⟩), undef, .pointer (some ⟨bs, 0, none⟩), .agg #[.slice A n c], .func (.func 28) #[] #[.pointer (some ⟨w.heap.size + 1 + 1, 0, none⟩)], .int .i64 (sizeUp l k), segV (sg l k), undef, undef, undef, undef, undef], defers := [] })
    ?axc ?assign ?body ?done ?stop
  case rd => exact ⟨by have := b2.cell 0; rw [HN.out]; exact this, HS.out.up hB3 (Nat.le_refl _)⟩
  case rdc => exact fun W W' h hc => h.calm hc
  case ic => exact fun k W W' h hc => ⟨h.1.calm hc, below_calm h.2 hc (by rw [HS3.out]; omega)⟩
  case ixc => exact fun _ _ _ _ h _ => h
  case i0 => exact ⟨b1, hB3⟩
  case axc =>
    rintro k a' W W' ⟨bs, h1, h2, h3⟩ hc
    exact ⟨bs, h1, h2.calm hc, h3⟩
  case assign =>
    rintro L k W K hk hi hr hsz hK
    rw [HS3.out] at hsz
    have HKK := Lib.hid hK
    clear hK hi hr
    simp only [segEnc, segV]
    gi_wp2_with fail
    refine HKK.out _ _ ((Below.refl _ _).alloc (Nat.le_refl _) _) ⟨W.heap.size, by omega, Box.new _ _ _ rfl, rfl⟩
  case body =>
    rintro L k a' W0 W hk hi0 hlt0 hca ⟨c1, hB⟩ hr ⟨bs, hbs, cs, rfl⟩ hsz
    have hmix : Try.prog.follows .mixedOrders = true := by kernel_rfl
    have hfz : Fence.wide.fn 23 := trivial
    have hkn : k < n := by rw [← HN.out]; exact hk
    have HSZ := Lib.hid (fun m w => CallsIn.inRound (F := Fence.wide) L ((callsIn_wide (n := m)).2 (fluid_size (sg l k) w (HG.out.fair k hk) (HG.out.seg (k := k) hk).1)))
    have hst := Lib.hid (sizeUp_step l k)
    have hu := HG.out.ups k (by omega)
    have hu2 := HG.out.seg (k := k) hk
    have hu3 : 0 ≤ sizeUp l k ∧ sizeUp l k ≤ 5242880000 := by omega
    obtain ⟨hu5, hu6⟩ := hu3
    obtain ⟨_, hu7, hu8⟩ := hu2
    have HR := Lib.hid hr
    have C1 := Lib.hid c1
    have HB := Lib.hid hB
    have hbl : w.heap.size + 1 < W.heap.size := c1.lt
    have q20 := c1.cell 0
    have q21 := c1.frozen 0
    obtain ⟨q0, q1, q2, q3⟩ := seg_box cs
    simp only [List.getElem?_toArray, List.getElem?_cons_zero] at q20
    clear hu hr hi0 cs hk c1 hB hca
    unfold segV at *
    generalize sg l k = s at *
    have hwr : IntKind.i64.wrap (sizeUp l k + segSize s) = sizeUp l k + segSize s := IntWalk.i64_in _ (by omega)
    gi_wp2_with fail
    gi_region_with_o (gi_at_call 23; refine (HSZ.out _ _).mono ?_; rintro e w' ⟨rfl, hb3⟩; have x0 := (C1.out.drew.under hb3).cell 0; have x1 := (C1.out.drew.under hb3).frozen 0; simp only [List.getElem?_toArray, List.getElem?_cons_zero] at x0)
    all_goals
      clear hwr
      gi_wp2_with fail
      have hbb := (Below.refl _ W).drew.trans hb3
      refine ⟨keeps_trans (keeps_below hbb) (keeps_set w' _ _), ⟨?_, (HB.out.trans (hbb.mono HB.out.size)).setCell (p := ⟨w.heap.size + 1, 0, none⟩) (by simp) _⟩, (HR.out.under hbb).set_ (p := ⟨w.heap.size + 1, 0, none⟩) (by simp) (by simp) _, (Mid.below hbb).set (by rw [HS3.out] at hlt0; simp; omega) _⟩
      have := (C1.out.drew.under hb3).set_ 0 (.int .i64 (sizeUp l k + segSize s))
      rw [hst.out]
      exact this
  case done =>
    rintro W ⟨c1, hB⟩ hK
    have q2 := c1.cell 0
    simp only [List.getElem?_toArray, List.getElem?_cons_zero] at q2
    gi_wp2_with fail
    refine ⟨by simp, .inl ⟨_, _, rfl, run_takeDeferred hK, ?_⟩⟩
    refine ⟨_, results_tmp rfl _ _ _, ?_, hB.trans (belowK_b (w := w) (Nat.le_refl _) W w3.heap.size _ _ (by rw [HS3.out]; omega) hK rfl rfl)⟩
    show Ending.returned (.int .i64 (sizeUp l l.length)) = _
    rw [HN.out]
  case stop =>
    rintro c k W _ h _
    exact h.elim

theorem HoleV.alloc {w : World} {v : Value} {l : List Seg} (h : HoleV w w.heap.size v l) (o : Obj) : HoleV (w.alloc o) (w.alloc o).heap.size v l := h.below ((Below.refl _ _).alloc (Nat.le_refl _) _)

set_option maxHeartbeats 1000000 in
theorem fluid_Volume (v0 : Value) (l : List Seg) (w : World) (hv : HoleV w w.heap.size v0 l) (hin : SegsIn l) (hm : l.length ≤ maxLen) :
    Calls Try.prog 5 #[v0] w fun e w' => e = .returned (.int .i64 (volumeOf l)) ∧ Below w.heap.size w w' := by
  have hvv := hv
  obtain ⟨A, c, rfl, hS⟩ := hv
  have HA := hvv.alloc (.cells #[.slice A l.length c] 27)
  have HC := Lib.hid (fluid_CheckHole _ l _ HA hin hm)
  have hba : Below w.heap.size w (w.alloc (.cells #[.slice A l.length c] 27)) := (Below.refl _ _).alloc (Nat.le_refl _) _
  have b0 : Box (w.alloc (.cells #[.slice A l.length c] 27)) w.heap.size 27 #[.slice A l.length c] := Box.new _ _ _ rfl
  have HB := Lib.hid b0
  have HBA := Lib.hid hba
  have HV := Lib.hid (fun h w' (hb : Below (w.alloc (.cells #[.slice A l.length c] 27)).heap.size (w.alloc (.cells #[.slice A l.length c] 27)) w') => fluid_volume _ l w' (HA.below hb) h)
  have hd : Hid (volumeOf l = if checkHole l = 0 then sizeUp l l.length else 0) := rfl
  have hi := Lib.hid (checkHole_iff l)
  clear hS hvv HA hba b0 hin
  generalize sizeUp l l.length = sz at *
  generalize l.length = n at *
  by_cases h0 : checkHole l = 0
  · have hg := Lib.hid (hi.out.1 h0)
    rw [h0] at HC
    rw [if_pos h0] at hd
    clear h0
    go_enter Try.func5, Try.ntmps5
    go_wp2_with fail
    refine HC.out.mono ?_
    rintro e w1 ⟨rfl, hb1⟩
    have q0 := (HB.out.under hb1).cell 0
    simp only [List.getElem?_toArray, List.getElem?_cons_zero] at q0
    have HB1 := Lib.hid hb1
    clear hb1
    go_wp2_with fail
    refine (HV.out hg.out w1 HB1.out).mono ?_
    rintro e w2 ⟨rfl, hb2⟩
    go_wp2_with fail
    go_ret
    have h1 := HBA.out.trans (HB1.out.mono HBA.out.size)
    exact ⟨ret_int hd.out.symm, h1.trans (hb2.mono h1.size)⟩
  · rw [if_neg h0] at hd
    have hz : (checkHole l != 0) = true := by simpa using h0
    clear h0
    generalize checkHole l = ch at *
    go_enter Try.func5, Try.ntmps5
    go_wp2_with fail
    refine HC.out.mono ?_
    rintro e w1 ⟨rfl, hb1⟩
    go_wp2_with fail
    go_ret
    exact ⟨ret_int hd.out.symm, HBA.out.trans (hb1.mono HBA.out.size)⟩

end Go.Proofs.Ytnhnheigdlnokaa
