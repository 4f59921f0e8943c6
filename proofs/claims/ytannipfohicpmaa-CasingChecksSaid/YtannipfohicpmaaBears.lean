/- Walks of the package casing: which section does not bear. -/
import Derived.Test.YtannipfohicpmaaWhy
namespace Go.Proofs.Ytannipfohicpmaa
open Go.RowKit Go.Shelf Mpl
attribute [local go_sem] Oper.semAt_some

theorem bearsFrom_step (j : Job) (l : List Int) (k n : Nat) (h : k < n) : bearsFrom j l k (n - k) = if whyAt j l k ≠ 0 then ((k : Int), whyAt j l k) else bearsFrom j l (k + 1) (n - (k + 1)) := by
  rw [show n - k = (n - (k + 1)) + 1 by omega, bearsFrom]
theorem pullOf_bounds {j : Job} {l : List Int} (h : Chosen j l) (k : Nat) : 0 ≤ pullOf j l k ∧ pullOf j l k ≤ 70368744177664 := by
  have h1 := sums_bounds h l.length k (Nat.le_refl _)
  have h2 := h.over
  unfold sums at h1
  unfold pullOf
  omega

theorem results_cells2 {fn : Func} {p q : Tmp} (h : fn.results = #[.cell p 3, .cell q 3]) (tmps : Array Value) (w : World) (g g' : Nat) (a b : Int)
    (hp : tmps.getD p undef = .pointer (some ⟨g, 0, none⟩)) (hq : tmps.getD q undef = .pointer (some ⟨g', 0, none⟩)) (h1 : w.cell? ⟨g, 0, none⟩ = some (.int .i64 a)) (h2 : w.cell? ⟨g', 0, none⟩ = some (.int .i64 b)) :
    (results fn tmps).run Try.prog w = .ok (.tuple #[.int .i64 a, .int .i64 b]) w := by
  simp only [results, h]
  rw [Array.getD_eq_getD_getElem?] at hp hq
  simp [Sem.run_bind, Result.andThen]
  rw [hp, hq]
  simp [go_sem, h1, h2]

set_option maxHeartbeats 4000000 in
set_option maxRecDepth 100000 in
theorem casing_bears0 (j : Job) (l : List Int) (v0 : Value) (A : Option Addr) (c : Nat) (w : World) (hv : JobV w w.heap.size v0 j) (hl : Ints w w.heap.size A l) (hc : Chosen j l) :
    Calls Try.prog 50 #[v0, .slice A l.length c] w fun e w' => e = .returned (.tuple #[.int .i64 (bearsFrom j l 0 l.length).1, .int .i64 (bearsFrom j l 0 l.length).2]) ∧ Below w.heap.size w w' := by
  have HV := Lib.hid hv
  obtain ⟨AE, cE, AL, cL, AG, cG, rfl, hcap, hE, hL, hG⟩ := hv
  have HE := Lib.hid hE
  have HG := Lib.hid hG
  have HL := Lib.hid hl
  have HC := Lib.hid hc
  clear hE hL hG hl hcap hc
  have HPU := Lib.hid (fun W (hW : Below w.heap.size w W) => casing_pulls j l _ A c W (HV.out.below hW) (HL.out.up hW hW.size) HC.out)
  have hfs : Fence.wide.fn 88 := trivial
  have hfp : Fence.wide.fn 53 := trivial
  generalize hnE : j.Ends.length = nE at *
  have HNE := Lib.hid hnE
  generalize hnL : j.Loads.length = nL at *
  generalize hnG : j.Grades.length = nG at *
  have HNG := Lib.hid hnG
  generalize hnl : l.length = nl at *
  have HNl := Lib.hid hnl
  clear hnE hnL hnG hnl
  generalize hres : bearsFrom j l 0 nl = res
  have HRES := Lib.hid hres
  clear hres
  obtain ⟨w4, hw4⟩ : ∃ w4, ((((w.alloc (.cells #[.slice AE nE cE, .slice AL nL cL, .slice AG nG cG, .int .i64 j.Factor, .int .i64 j.Over] 36)).alloc (.cells #[.slice A nl c] 37)).alloc (.cells #[.int .i64 0] 3)).alloc (.cells #[.int .i64 0] 3)) = w4 := ⟨_, rfl⟩
  have b0 : Box w4 w.heap.size 36 #[.slice AE nE cE, .slice AL nL cL, .slice AG nG cG, .int .i64 j.Factor, .int .i64 j.Over] := by rw [← hw4]; exact (((Box.new w _ _ rfl).alloc _).alloc _).alloc _
  have b1 : Box w4 (w.heap.size + 1) 37 #[.slice A nl c] := by rw [← hw4]; exact ((Box.new _ _ _ (by simp)).alloc _).alloc _
  have b2 : Box w4 (w.heap.size + 1 + 1) 3 #[.int .i64 0] := by rw [← hw4]; exact (Box.new _ _ _ (by simp)).alloc _
  have b3 : Box w4 (w.heap.size + 1 + 1 + 1) 3 #[.int .i64 0] := by rw [← hw4]; exact Box.new _ _ _ (by simp)
  have hB4 : Below w.heap.size w w4 := by rw [← hw4]; exact (by repeat (first | exact Below.refl _ _ | assumption | refine Below.setCell ?_ (by first | (simp; done) | (simp; omega)) _ | refine belowDrewN ?_ _ | refine Below.drew ?_ | refine Below.alloc ?_ (by first | (simp; done) | (simp; omega)) _))
  have hs4 : w4.heap.size = w.heap.size + 1 + 1 + 1 + 1 := by rw [← hw4]; simp
  have HW4 := Lib.hid hw4
  have HS4 := Lib.hid hs4
  clear hw4 hs4
  refine (callsIn_wide (n := 10)).1 ?_
  refine callsIn_of_wp_marks Try.func50 rfl trivial ?_ rfl
  simp only [Try.ntmps50, List.size_toArray, List.length_cons, List.length_nil, Nat.reduceAdd, Nat.reduceSub, Array.replicate_succ, Array.replicate_zero, List.push_toArray, List.append_toArray, List.nil_append, List.cons_append]
  gi_wp2_with fail
  rw [HW4.out]
  refine (callsIn_wide.2 (HPU.out w4 hB4)).mono ?_
  rintro e w5 ⟨gg, rfl, hgg, bg, hb5⟩
  have HBG := Lib.hid bg
  have c0 := b0.under hb5
  have c1 := b1.under hb5
  have c2 := b2.under hb5
  have c3 := b3.under hb5
  have hB5 := hB4.trans (hb5.mono hB4.size)
  have hs5 : w.heap.size + 1 + 1 + 1 + 1 ≤ w5.heap.size := by rw [← HS4.out]; exact hb5.size
  have hlt5 : w.heap.size < w5.heap.size := by omega
  clear bg b0 b1 b2 b3
  have q0 := c0.cell 0
  have q1 := c0.cell 1
  have q2 := c0.cell 2
  have q3 := c0.cell 3
  have q4 := c0.cell 4
  simp only [List.getElem?_toArray, List.getElem?_cons_zero, List.getElem?_cons_succ] at q0 q1 q2 q3 q4
  gi_wp2_with fail
  refine (callsIn_wide.2 (casing_sections _ _ _ _ _ _)).mono ?_
  rintro e w' ⟨rfl, rfl⟩
  clear q0 q1 q2 q3 q4
  obtain ⟨w7, hw7⟩ : ∃ w7, ((w5.alloc (.cells #[.slice (some ⟨gg, 0, none⟩) nl nl] 32)).alloc (.cells #[.slice AE nE cE, .slice AL nL cL, .slice AG nG cG, .int .i64 j.Factor, .int .i64 j.Over] 36)) = w7 := ⟨_, rfl⟩
  have d0 : Box w7 w.heap.size 36 #[.slice AE nE cE, .slice AL nL cL, .slice AG nG cG, .int .i64 j.Factor, .int .i64 j.Over] := by rw [← hw7]; exact (c0.alloc _).alloc _
  have d1 : Box w7 (w.heap.size + 1) 37 #[.slice A nl c] := by rw [← hw7]; exact (c1.alloc _).alloc _
  have d2 : Box w7 (w.heap.size + 1 + 1) 3 #[.int .i64 0] := by rw [← hw7]; exact (c2.alloc _).alloc _
  have d3 : Box w7 (w.heap.size + 1 + 1 + 1) 3 #[.int .i64 0] := by rw [← hw7]; exact (c3.alloc _).alloc _
  have dg : Box w7 gg 2 (mkRow nl (pullOf j l)) := by rw [← hw7]; exact (HBG.out.alloc _).alloc _
  have dp : Box w7 w5.heap.size 32 #[.slice (some ⟨gg, 0, none⟩) nl nl] := by rw [← hw7]; exact (Box.new _ _ _ rfl).alloc _
  have ds : Box w7 (w5.heap.size + 1) 36 #[.slice AE nE cE, .slice AL nL cL, .slice AG nG cG, .int .i64 j.Factor, .int .i64 j.Over] := by rw [← hw7]; exact Box.new _ _ _ (by simp)
  have hB7 : Below w.heap.size w w7 := by rw [← hw7]; exact (hB5.alloc (by omega) _).alloc (by simp; omega) _
  have hs7 : w7.heap.size = w5.heap.size + 1 + 1 := by rw [← hw7]; simp
  have HS7 := Lib.hid hs7
  rw [hw7]
  clear hw7 hs7 c0 c1 c2 c3
  have hgl := HBG.out.lt
  gi_wp2_with fail
  have hfs1 : Fence.wide.fn 106 := trivial
  refine range_idx rfl (by omega) (gf := 106) (lb := #[.pointer (some ⟨w5.heap.size + 1, 0, none⟩)]) rfl trivial enters_sections1
    (sections_iter 9 (w5.heap.size + 1) w.heap.size AE cE j.Ends HC.out.few (by omega)) (fun _ => rfl)
    ?rd ?rdc
    (fun k W => Box W w.heap.size 36 #[.slice AE nE cE, .slice AL nL cL, .slice AG nG cG, .int .i64 j.Factor, .int .i64 j.Over] ∧ Box W (w.heap.size + 1) 37 #[.slice A nl c] ∧ Box W (w.heap.size + 1 + 1) 3 #[.int .i64 0] ∧ Box W (w.heap.size + 1 + 1 + 1) 3 #[.int .i64 0] ∧ Box W gg 2 (mkRow nl (pullOf j l)) ∧ Box W w5.heap.size 32 #[.slice (some ⟨gg, 0, none⟩) nl nl] ∧ Below w.heap.size w W ∧ bearsFrom j l k (nl - k) = res)
    (fun c k W => c = Code.ret ∧ Box W (w.heap.size + 1 + 1) 3 #[.int .i64 res.1] ∧ Box W (w.heap.size + 1 + 1 + 1) 3 #[.int .i64 res.2] ∧ Below w.heap.size w W) ?ic ?ixc ?i0
    (fun k a' W => ∃ bs, w5.heap.size + 1 < bs ∧ Box W bs 116 #[.int .i64 (topOf j.Ends k), .int .i64 (pick j.Ends k)] ∧ a' = { tmps := #[.agg #[.slice AE nE cE, .slice AL nL cL, .slice AG nG cG, .int .i64 j.Factor, .int .i64 j.Over], .slice A nl c, .pointer (some ⟨w.heap.size, 0, none⟩), .pointer (some ⟨w.heap.size + 1, 0, none⟩), .pointer (some ⟨w.heap.size + 1 + 1, 0, none⟩), .pointer (some ⟨w.heap.size + 1 + 1 + 1, 0, none⟩), .pointer (some ⟨w5.heap.size, 0, none⟩), .int .i64 k, .pointer (some ⟨bs, 0, none⟩), undef, .agg #[.slice AE nE cE, .slice AL nL cL, .slice AG nG cG, .int .i64 j.Factor, .int .i64 j.Over], .slice A nl c, .slice (some ⟨gg, 0, none⟩) nl nl, .agg #[.slice AE nE cE, .slice AL nL cL, .slice AG nG cG, .int .i64 j.Factor, .int .i64 j.Over], .func (.func 106) #[] #[.pointer (some ⟨w5.heap.size + 1, 0, none⟩)], .int .i64 k, .agg #[.int .i64 (topOf j.Ends k), .int .i64 (pick j.Ends k)], undef, undef, undef, undef, undef, undef, undef, undef, undef, undef, undef, undef, undef, undef, undef, undef, undef, undef, undef], defers := [] })
    ?axc ?assign ?body ?done ?stop
  case rd => exact ⟨by have := ds.cell 0; rw [HNE.out]; exact this, HE.out.up hB7 (Nat.le_refl _)⟩
  case rdc => exact fun W W' h hc => h.calm hc
  case ic => exact fun k W W' h hc => ⟨h.1.calm hc, h.2.1.calm hc, h.2.2.1.calm hc, h.2.2.2.1.calm hc, h.2.2.2.2.1.calm hc, h.2.2.2.2.2.1.calm hc, below_calm h.2.2.2.2.2.2.1 hc (by rw [HS7.out]; omega), h.2.2.2.2.2.2.2⟩
  case ixc => exact fun _ _ _ _ h hc => ⟨h.1, h.2.1.calm hc, h.2.2.1.calm hc, below_calm h.2.2.2 hc (by rw [HS7.out]; omega)⟩
  case i0 => exact ⟨d0, d1, d2, d3, dg, dp, hB7, HRES.out⟩
  case axc =>
    rintro k a' W W' ⟨bs, h1, h2, h3⟩ hc
    exact ⟨bs, h1, h2.calm hc, h3⟩
  case assign =>
    rintro L k W K hk hi hr hsz hK
    rw [HS7.out] at hsz
    have HKK := Lib.hid hK
    clear hK hi hr
    simp only [secEnc]
    gi_wp2_with fail
    refine HKK.out _ _ ((Below.refl _ _).alloc (Nat.le_refl _) _) ⟨W.heap.size, by omega, Box.new _ _ _ rfl, rfl⟩
  case body =>
    rintro L k a' W hk ⟨c0, c1, c2, c3, cg, cp, hB, hbf⟩ hr ⟨bs, hbs, cs, rfl⟩ hsz
    have hkl : k < l.length := by rw [HC.out.same]; exact hk
    have hst := Lib.hid (bearsFrom_step j l k nl (by rw [← HNl.out]; exact hkl))
    have HBF := Lib.hid hbf
    obtain ⟨lb, loff, rfl, hlb, hlc⟩ := HL.out (by omega)
    obtain ⟨gb, goff, rfl, hgb, hgc⟩ := HG.out (by have := (HC.out.grades k hkl).2; omega)
    obtain ⟨hg0, hg1⟩ := HC.out.grades k hkl
    have e1 := oldCell hB hlb (hlc k hkl)
    obtain ⟨t0, t1, t2, t3, t4⟩ := hgc _ hg1
    have u0 := oldCell hB hgb t0
    have u1 := oldCell hB hgb t1
    have u2 := oldCell hB hgb t2
    have u3 := oldCell hB hgb t3
    have u4 := oldCell hB hgb t4
    clear hlc hgc t0 t1 t2 t3 t4
    have hpb := pullOf_bounds HC.out k
    have HWY := Lib.hid (casing_why j (topOf j.Ends k) (pick j.Ends k) (gd j.Grades (pick l k).toNat) (pullOf j l k) _ W.drew (HV.out.below hB.drew) (HC.out.fair _ hg1) hpb.1 hpb.2 HC.out.nload)
    have hwd : Hid (whyAt j l k = why j (topOf j.Ends k) (pick j.Ends k) (gd j.Grades (pick l k).toNat) (pullOf j l k)) := rfl
    have hgi : pick l k < (nG : Int) := by rw [← HNG.out]; omega
    have hkn0 : k < nl := by rw [← HNl.out]; omega
    have hkn : (k : Int) < (nl : Int) := by omega
    have HR := Lib.hid hr
    clear hr hk hkl hg1 hbf hpb
    have q00 := c0.cell 0
    have q01 := c0.cell 1
    have q02 := c0.cell 2
    have q03 := c0.cell 3
    have q04 := c0.cell 4
    have q10 := c1.cell 0
    have q30 := cs.cell 0
    have q31 := cs.cell 1
    have q40 := cp.cell 0
    have q50 := cg.cell k
    rw [mkRow_get _ _ _ hkn0] at q50
    simp only [List.getElem?_toArray, List.getElem?_cons_zero, List.getElem?_cons_succ] at q00 q01 q02 q03 q04 q10 q30 q31 q40
    have hfw : Fence.wide.fn 89 := trivial
    rw [hwd.out] at hst
    clear hwd
    unfold secV gradeV at HWY
    generalize hwy : why j (topOf j.Ends k) (pick j.Ends k) (gd j.Grades (pick l k).toNat) (pullOf j l k) = wy at *
    clear hwy
    by_cases hz : wy = 0
    · subst hz
      gi_wp2_with fail
      refine region_tail 14 mixed (by kernel_rfl) (by kernel_rfl) ?_
      simp only [List.take_succ_cons, List.take_zero, List.drop_succ_cons, List.drop_zero]
      repeat still_step
      refine wpStill_nil ?_
      gi_wp2_with fail
      refine (CallsIn.inRound L (callsIn_wide.2 HWY.out)).mono ?_
      rintro e w8 ⟨rfl, hb8⟩
      clear q00 q01 q02 q03 q04 q10 q30 q31 q40 q50 u0 u1 u2 u3 u4 e1
      gi_wp2_with fail
      refine ⟨keeps_trans (keeps_drew (KeepsFrom.refl _ _)) (keeps_below hb8), ⟨c0.drew.under hb8, c1.drew.under hb8, c2.drew.under hb8, c3.drew.under hb8, cg.drew.under hb8, cp.drew.under hb8, hB.drew.trans (hb8.mono hB.size), ?_⟩, HR.out.drew.calm (Calm.below (B := 0) hb8 (Nat.zero_le _))⟩
      have := hst.out
      rw [if_neg (by simp)] at this
      rw [← this]
      exact HBF.out
    · have hz' : (wy != 0) = true := by simpa using hz
      gi_wp2_with fail
      refine region_tail 14 mixed (by kernel_rfl) (by kernel_rfl) ?_
      simp only [List.take_succ_cons, List.take_zero, List.drop_succ_cons, List.drop_zero]
      repeat still_step
      refine wpStill_nil ?_
      gi_wp2_with fail
      refine (CallsIn.inRound L (callsIn_wide.2 HWY.out)).mono ?_
      rintro e w8 ⟨rfl, hb8⟩
      clear q00 q01 q02 q03 q04 q10 q30 q31 q40 q50 u0 u1 u2 u3 u4 e1
      have v2 := c2.drew.under hb8
      have v3 := c3.drew.under hb8
      have v2c := v2.cell 0
      have v3c := v3.cell 0
      have v2f := v2.frozen 0
      have v3f := v3.frozen 0
      simp only [List.getElem?_toArray, List.getElem?_cons_zero] at v2c v3c
      gi_wp2_with fail
      have hre := hst.out
      rw [if_pos hz, HBF.out] at hre
      rw [hre]
      refine ⟨keeps_trans (keeps_trans (keeps_trans (keeps_drew (KeepsFrom.refl _ _)) (keeps_below hb8)) (keeps_set _ _ _)) (keeps_set _ _ _), rfl, (v2.set_ 0 (.int .i64 k)).far (by simp) _, (v3.far (by simp) _).set_ 0 (.int .i64 wy), ((hB.drew.trans (hb8.mono hB.size)).setCell (p := ⟨w.heap.size + 1 + 1, 0, none⟩) (by simp; omega) _).setCell (p := ⟨w.heap.size + 1 + 1 + 1, 0, none⟩) (by simp; omega) _⟩
  case done =>
    rintro W ⟨c0, c1, c2, c3, cg, cp, hB, hbf⟩ hK
    have v2c := c2.cell 0
    have v3c := c3.cell 0
    have v2f := c2.frozen 0
    have v3f := c3.frozen 0
    simp only [List.getElem?_toArray, List.getElem?_cons_zero] at v2c v3c
    gi_wp2_with fail
    have hK1 : ((W.setCell ⟨w.heap.size + 1 + 1, 0, none⟩ (.int .i64 (-1))).setCell ⟨w.heap.size + 1 + 1 + 1, 0, none⟩ (.int .i64 0)).heap[w7.heap.size]? = some (.deferred (some [])) :=
      (Below.heap_setCell _ _ _ _ (by rw [HS7.out]; simp; omega)).trans ((Below.heap_setCell _ _ _ _ (by rw [HS7.out]; simp; omega)).trans hK)
    refine ⟨by simp, .inl ⟨_, _, rfl, run_takeDeferred hK1, ?_⟩⟩
    have hcm := Calm.put (B := 0) (.deferred none) (Nat.zero_le _) hK1 rfl
    have k2 := (((c2.set_ 0 (.int .i64 (-1))).far (p := ⟨w.heap.size + 1 + 1 + 1, 0, none⟩) (by simp) (.int .i64 0)).calm hcm).cell 0
    have k3 := (((c3.far (p := ⟨w.heap.size + 1 + 1, 0, none⟩) (by simp) (.int .i64 (-1))).set_ 0 (.int .i64 0)).calm hcm).cell 0
    refine ⟨_, results_cells2 rfl _ _ _ _ _ _ rfl rfl k2 k3, ?_, ((hB.setCell (p := ⟨w.heap.size + 1 + 1, 0, none⟩) (by simp; omega) _).setCell (p := ⟨w.heap.size + 1 + 1 + 1, 0, none⟩) (by simp; omega) _).trans (belowK_b (w := w) (Nat.le_refl _) _ w7.heap.size _ _ (by rw [HS7.out]; omega) hK1 rfl rfl)⟩
    have hx := HC.out.same
    rw [HNE.out, HNl.out] at hx
    rw [HNE.out, hx, Nat.sub_self] at hbf
    rw [← hbf]
    rfl
  case stop =>
    rintro c k W _ ⟨rfl, h1, h2, hB⟩ hK
    gi_wp2_with fail
    refine ⟨by simp, .inl ⟨_, _, rfl, run_takeDeferred hK, ?_⟩⟩
    have hcm := Calm.put (B := 0) (.deferred none) (Nat.zero_le _) hK rfl
    have k2 := (h1.calm hcm).cell 0
    have k3 := (h2.calm hcm).cell 0
    exact ⟨_, results_cells2 rfl _ _ _ _ _ _ rfl rfl k2 k3, rfl, hB.trans (belowK_b (w := w) (Nat.le_refl _) W w7.heap.size _ _ (by rw [HS7.out]; omega) hK rfl rfl)⟩

end Go.Proofs.Ytannipfohicpmaa
