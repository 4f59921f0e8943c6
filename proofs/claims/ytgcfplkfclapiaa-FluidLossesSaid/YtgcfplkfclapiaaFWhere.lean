/- Walks of the package fluid: whether a place is in a hole, and in which segment. -/
import Derived.Test.YtgcfplkfclapiaaFVolume
namespace Mpl
theorem passed_stop (l : List Seg) (u : Int) (k m : Nat) (h : u < sizeUp l k) : passed l u k m = k := by
  cases m with
  | zero => rfl
  | succ m => rw [passed, if_pos h]
theorem passed_go (l : List Seg) (u : Int) (k m : Nat) (h : ¬ u < sizeUp l k) : passed l u k (m + 1) = passed l u (k + 1) m := by rw [passed, if_neg h]
end Mpl
namespace Go.Proofs.Ytgcfplkfclapiaa
open Go.RowKit Go.Shelf Mpl
attribute [local go_sem] Oper.semAt_some

set_option maxHeartbeats 1000000 in
theorem fluid_in (v0 : Value) (l : List Seg) (u : Int) (w : World) (hv : HoleV w w.heap.size v0 l) (hin : SegsIn l) (hm : l.length ≤ maxLen) :
    Calls Try.prog 73 #[v0, .int .i64 u] w fun e w' => e = .returned (.bool (inHole l u)) ∧ Below w.heap.size w w' := by
  have hvv := hv
  obtain ⟨A, c, rfl, hS⟩ := hv
  have HA := hvv.alloc (.cells #[.slice A l.length c] 25)
  have HC := Lib.hid (fluid_CheckHole _ l _ HA hin hm)
  have hba : Below w.heap.size w (w.alloc (.cells #[.slice A l.length c] 25)) := (Below.refl _ _).alloc (Nat.le_refl _) _
  have b0 : Box (w.alloc (.cells #[.slice A l.length c] 25)) w.heap.size 25 #[.slice A l.length c] := Box.new _ _ _ rfl
  have HB := Lib.hid b0
  have HBA := Lib.hid hba
  have HV := Lib.hid (fun h w' (hb : Below (w.alloc (.cells #[.slice A l.length c] 25)).heap.size (w.alloc (.cells #[.slice A l.length c] 25)) w') => fluid_volume _ l w' (HA.below hb) h)
  have hd : Hid (inHole l u = (decide (checkHole l = 0) && within u 0 (sizeUp l l.length))) := rfl
  have hi := Lib.hid (checkHole_iff l)
  clear hS hvv HA hba b0 hin
  generalize sizeUp l l.length = sz at *
  generalize l.length = n at *
  generalize inHole l u = res at *
  by_cases h0 : checkHole l = 0
  · have hg := Lib.hid (hi.out.1 h0)
    rw [h0] at HC
    have hd2 : Hid (res = within u 0 sz) := by unfold Hid; rw [hd.out, h0]; simp
    clear h0 hd
    go_enter Try.func73, Try.ntmps73
    go_wp2_with fail
    refine HC.out.mono ?_
    rintro e w1 ⟨rfl, hb1⟩
    have q0 := (HB.out.under hb1).cell 0
    simp only [List.getElem?_toArray, List.getElem?_cons_zero] at q0
    have HB1 := Lib.hid hb1
    clear hb1
    go_wp2_with fail
    refine (HV.out hg.out w1 HB1.out).mono ?_
    rintro e w2 ⟨rfl, hb2⟩
    go_wp2_with (go_at_call 62; refine (fluid_within _ _ _ _).mono ?_; rintro e w' ⟨rfl, rfl⟩)
    go_ret
    have h1 := HBA.out.trans (HB1.out.mono HBA.out.size)
    exact ⟨ret_bool hd2.out.symm, h1.trans (hb2.mono h1.size)⟩
  · have hz : (checkHole l == 0) = false := by simpa using h0
    have hd2 : Hid (res = false) := by unfold Hid; rw [hd.out, decide_eq_false h0]; rfl
    clear h0 hd
    generalize checkHole l = ch at *
    go_enter Try.func73, Try.ntmps73
    go_wp2_with fail
    refine HC.out.mono ?_
    rintro e w1 ⟨rfl, hb1⟩
    go_wp2_with fail
    go_ret
    exact ⟨ret_bool hd2.out.symm, HBA.out.trans (hb1.mono HBA.out.size)⟩

set_option maxHeartbeats 4000000 in
set_option maxRecDepth 100000 in
theorem fluid_Where (v0 : Value) (l : List Seg) (u : Int) (w : World) (hv : HoleV w w.heap.size v0 l) (hin : SegsIn l) (hm : l.length ≤ maxLen) :
    Calls Try.prog 33 #[v0, .int .i64 u] w fun e w' => e = .returned (.int .i64 (whereOf l u)) ∧ Below w.heap.size w w' := by
  have hvv := hv
  obtain ⟨A, c, rfl, hS⟩ := hv
  obtain ⟨w0, hw0⟩ : ∃ w0, (w.alloc (.cells #[.slice A l.length c] 25)).alloc (.cells #[.int .i64 u] 2) = w0 := ⟨_, rfl⟩
  have hB0 : Below w.heap.size w w0 := by rw [← hw0]; exact (by repeat (first | exact Below.refl _ _ | assumption | refine Below.setCell ?_ (by first | (simp; done) | (simp; omega)) _ | refine belowDrewN ?_ _ | refine Below.drew ?_ | refine Below.alloc ?_ (by first | (simp; done) | (simp; omega)) _))
  have b0 : Box w0 w.heap.size 25 #[.slice A l.length c] := by rw [← hw0]; exact (Box.new w _ _ rfl).alloc _
  have b1 : Box w0 (w.heap.size + 1) 2 #[.int .i64 u] := by rw [← hw0]; exact Box.new _ _ _ (by simp)
  have HI := Lib.hid (fluid_in _ l u w0 (hvv.below hB0) hin hm)
  have hd : Hid (whereOf l u = if inHole l u then (passed l u 0 l.length : Int) - 1 else -1) := rfl
  have hgood : inHole l u = true → GoodHole l := fun h => (checkHole_iff l).1 (by
    unfold inHole at h
    simp at h
    exact h.1)
  have HW0 := Lib.hid hw0
  clear hw0
  have HB0 := Lib.hid hB0
  have B0 := Lib.hid b0
  have B1 := Lib.hid b1
  clear hvv b0 b1
  cases hh : inHole l u
  · have hs : Hid (whereOf l u = -1) := by unfold Hid; rw [hd.out, hh]; rfl
    rw [hh] at HI
    clear hS hd hgood hh hin hB0
    generalize whereOf l u = res at *
    generalize l.length = n at *
    have q1 := B1.out.cell 0
    have q0 := B0.out.cell 0
    simp only [List.getElem?_toArray, List.getElem?_cons_zero] at q0 q1
    go_enter Try.func33, Try.ntmps33
    go_wp2_with fail
    rw [HW0.out]
    go_wp2_with fail
    refine HI.out.mono ?_
    rintro e w1 ⟨rfl, hb1⟩
    go_wp2_with fail
    go_ret
    exact ⟨ret_int hs.out.symm, HB0.out.trans (hb1.mono HB0.out.size)⟩
  have HG := Lib.hid (hgood hh)
  have hfew := HG.out.few
  have hs : Hid (whereOf l u = (passed l u 0 l.length : Int) - 1) := by unfold Hid; rw [hd.out, hh]; rfl
  rw [hh] at HI
  have HS := Lib.hid (hS.up hB0 (Nat.le_refl _))
  clear hS hd hgood hh hin hB0
  generalize whereOf l u = res at *
  generalize hP : passed l u 0 l.length = P at *
  have HP := Lib.hid hP
  clear hP
  have hfs : Fence.wide.fn 71 := trivial
  have hfi : Fence.wide.fn 73 := trivial
  generalize hn : l.length = n at *
  have HN := Lib.hid hn
  clear hn
  have q1 := B1.out.cell 0
  have q0 := B0.out.cell 0
  simp only [List.getElem?_toArray, List.getElem?_cons_zero] at q0 q1
  refine (callsIn_wide (n := 10)).1 ?_
  refine callsIn_of_wp_marks Try.func33 rfl trivial ?_ rfl
  simp only [Try.ntmps33, List.size_toArray, List.length_cons, List.length_nil, Nat.reduceAdd, Nat.reduceSub, Array.replicate_succ, Array.replicate_zero, List.push_toArray, List.append_toArray, List.nil_append, List.cons_append]
  gi_wp2_with fail
  rw [HW0.out]
  gi_wp2_with fail
  refine (callsIn_wide.2 HI.out).mono ?_
  rintro e w1 ⟨rfl, hb1⟩
  obtain ⟨w3, hw3⟩ : ∃ w3, (w1.alloc (.cells #[.int .i64 (-1)] 3)).alloc (.cells #[.slice A n c] 25) = w3 := ⟨_, rfl⟩
  have bo : Box w3 w1.heap.size 3 #[.int .i64 (-1)] := by rw [← hw3]; exact (Box.new _ _ _ rfl).alloc _
  have bh : Box w3 (w1.heap.size + 1) 25 #[.slice A n c] := by rw [← hw3]; exact Box.new _ _ _ (by simp)
  have b13 : Below w1.heap.size w1 w3 := by rw [← hw3]; exact ((Below.refl _ _).alloc (Nat.le_refl _) _).alloc (by simp) _
  have hs3 : w3.heap.size = w1.heap.size + 1 + 1 := by rw [← hw3]; simp
  have HW3 := Lib.hid hw3
  have HS3 := Lib.hid hs3
  have B01 := Lib.hid (B0.out.under hb1)
  have B11 := Lib.hid (B1.out.under hb1)
  have B03 := Lib.hid (B01.out.under b13)
  have B13 := Lib.hid (B11.out.under b13)
  have HB1 := Lib.hid (HB0.out.trans (hb1.mono HB0.out.size))
  have HB3 := Lib.hid (HB1.out.trans (b13.mono HB1.out.size))
  have hlt1 : w.heap.size + 1 < w1.heap.size := B11.out.lt
  have hlt0 : w.heap.size < w1.heap.size := B01.out.lt
  have HSR := Lib.hid (HS.out.up (hb1.mono HB0.out.size) (Nat.le_refl _))
  clear hw3 hs3 q0 q1
  have q0 := B01.out.cell 0
  have q1 := B11.out.cell 0
  simp only [List.getElem?_toArray, List.getElem?_cons_zero] at q0 q1
  gi_wp2_with fail
  refine (callsIn_wide.2 (fluid_places _ _)).mono ?_
  rintro e w' ⟨rfl, rfl⟩
  rw [HW3.out]
  gi_wp2_with fail
  have hfs1 : Fence.wide.fn 94 := trivial
  refine range_idx2 rfl (by omega) (gf := 94) (lb := #[.pointer (some ⟨w1.heap.size + 1, 0, none⟩)]) rfl trivial enters_places1
    (places_iter 9 (w1.heap.size + 1) w.heap.size A c l HG.out (by omega)) (fun _ => rfl)
    ?rd ?rdc
    (fun k W => Box W w1.heap.size 3 #[.int .i64 ((k : Int) - 1)] ∧ Box W (w.heap.size + 1) 2 #[.int .i64 u] ∧ Below w.heap.size w W ∧ passed l u k (n - k) = P)
    (fun c k W => c = .exit 0 ∧ Box W w1.heap.size 3 #[.int .i64 ((k : Int) - 1)] ∧ Below w.heap.size w W ∧ k = P) ?ic ?ixc ?i0
    (fun k a' W => a' = { tmps := #[.agg #[.slice A n c], .int .i64 u, .pointer (some ⟨w.heap.size, 0, none⟩), .pointer (some ⟨w.heap.size + 1, 0, none⟩), .int .i64 0, .pointer (some ⟨w1.heap.size, 0, none⟩), .int .i64 (sizeUp l k), .agg #[.slice A n c], .int .i64 u, .bool true, .bool false, .agg #[.slice A n c], .func (.func 94) #[] #[.pointer (some ⟨w1.heap.size + 1, 0, none⟩)], .int .i64 (sizeUp l k), segV (sg l k), undef, undef, undef, undef, undef, undef], defers := [] })
    ?axc ?assign ?body ?done ?stop
  case rd => exact ⟨by have := bh.cell 0; rw [HN.out]; exact this, HSR.out.up (b13.mono (by omega)) (Nat.le_refl _)⟩
  case rdc => exact fun W W' h hc => h.calm hc
  case ic => exact fun k W W' h hc => ⟨h.1.calm hc, h.2.1.calm hc, below_calm h.2.2.1 hc (by rw [HS3.out]; omega), h.2.2.2⟩
  case ixc => exact fun _ _ _ _ h hc => ⟨h.1, h.2.1.calm hc, below_calm h.2.2.1 hc (by rw [HS3.out]; omega), h.2.2.2⟩
  case i0 => exact ⟨bo, B13.out, HB3.out, by rw [← HN.out] at HP; simpa [HN.out] using HP.out⟩
  case axc => exact fun k a' W W' h _ => h
  case assign =>
    rintro L k W K hk hi hr hsz hK
    have HKK := Lib.hid hK
    clear hK hi hr
    simp only [segEnc, segV]
    gi_wp2_with fail
    exact HKK.out _ _ (Below.refl _ _) rfl
  case body =>
    rintro L k a' W0 W hk hi0 hlt0' hca ⟨c1, c2, hB, hps⟩ hr rfl hsz
    have hmix : Try.prog.follows .mixedOrders = true := by kernel_rfl
    have hkn : k < n := by rw [← HN.out]; exact hk
    have x0 := c1.cell 0
    have x1 := c2.cell 0
    have x2 := c1.frozen 0
    simp only [List.getElem?_toArray, List.getElem?_cons_zero] at x0 x1
    have C1 := Lib.hid c1
    have C2 := Lib.hid c2
    have HB := Lib.hid hB
    have HR := Lib.hid hr
    have HPS := Lib.hid hps
    have hfs' := HS3.out
    clear c1 c2 hB hr hps hi0 hca hk
    by_cases hgo : u < sizeUp l k
    · have t1 : decide (u < sizeUp l k) = true := decide_eq_true hgo
      have hkP : Hid (k = P) := by unfold Hid; rw [← HPS.out, passed_stop l u k _ hgo]
      generalize sizeUp l k = S at *
      gi_wp2_with fail
      exact ⟨keeps_below (Below.refl _ W), rfl, C1.out, HB.out, hkP.out⟩
    · have t1 : decide (u < sizeUp l k) = false := decide_eq_false hgo
      have hnx : Hid (passed l u (k + 1) (n - (k + 1)) = P) := by
        unfold Hid
        rw [← HPS.out, show n - k = (n - (k + 1)) + 1 by omega, passed_go l u k _ hgo]
      generalize sizeUp l k = S at *
      have hwr : IntKind.i64.wrap ((k : Int) - 1 + 1) = (((k + 1 : Nat) : Int) - 1) := by rw [IntWalk.i64_in _ (by omega)]; omega
      gi_wp2_with fail
      refine ⟨keeps_set W _ _, ⟨?_, C2.out.far (by simp; omega) _, HB.out.setCell (p := ⟨w1.heap.size, 0, none⟩) (by simp; omega) _, hnx.out⟩, HR.out.set_ (p := ⟨w1.heap.size, 0, none⟩) (by simp; omega) (by simp) _, (Mid.refl _ W).set (by rw [HS3.out] at hlt0'; simp; omega) _⟩
      have := C1.out.set_ 0 (.int .i64 (k : Int))
      rw [show (((k + 1 : Nat) : Int) - 1) = (k : Int) by omega]
      simpa using this
  case done =>
    rintro W ⟨c1, c2, hB, hps⟩ hK
    have x0 := c1.cell 0
    simp only [List.getElem?_toArray, List.getElem?_cons_zero] at x0
    gi_wp2_with fail
    refine ⟨by simp, .inl ⟨_, _, rfl, run_takeDeferred hK, ?_⟩⟩
    refine ⟨_, results_tmp rfl _ _ _, ?_, hB.trans (belowK_b (w := w) (Nat.le_refl _) W w3.heap.size _ _ (by rw [HS3.out]; omega) hK rfl rfl)⟩
    refine ret_int ?_
    rw [hs.out, ← hps, HN.out, Nat.sub_self]
    rfl
  case stop =>
    rintro c k W hk ⟨rfl, c1, hB, rfl⟩ hK
    have x0 := c1.cell 0
    simp only [List.getElem?_toArray, List.getElem?_cons_zero] at x0
    gi_wp2_with fail
    refine ⟨by simp, .inl ⟨_, _, rfl, run_takeDeferred hK, ?_⟩⟩
    refine ⟨_, results_tmp rfl _ _ _, ?_, hB.trans (belowK_b (w := w) (Nat.le_refl _) W w3.heap.size _ _ (by rw [HS3.out]; omega) hK rfl rfl)⟩
    exact ret_int hs.out.symm

end Go.Proofs.Ytgcfplkfclapiaa
