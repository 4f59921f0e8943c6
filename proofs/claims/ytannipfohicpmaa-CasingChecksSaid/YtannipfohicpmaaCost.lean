/- Walks of the package casing: the cost of a choice. -/
import Derived.Test.YtannipfohicpmaaSections
import Derived.Test.YtannipfohicpmaaStill
namespace Go.Proofs.Ytannipfohicpmaa
open Go.RowKit Go.Shelf Mpl
attribute [local go_sem] Oper.semAt_some

set_option maxHeartbeats 2000000 in
set_option maxRecDepth 100000 in
theorem casing_cost (j : Job) (l : List Int) (v0 : Value) (A : Option Addr) (c : Nat) (w : World) (hv : JobV w w.heap.size v0 j) (hl : Ints w w.heap.size A l) (hc : Chosen j l) :
    Calls Try.prog 55 #[v0, .slice A l.length c] w fun e w' => e = .returned (.int .i64 (sumFrom (costOf j l) 0 l.length)) ∧ Below w.heap.size w w' := by
  obtain ⟨AE, cE, AL, cL, AG, cG, rfl, hcap, hE, hL, hG⟩ := hv
  have HE := Lib.hid hE
  have HG := Lib.hid hG
  have HL := Lib.hid hl
  have HC := Lib.hid hc
  clear hE hL hG hl hcap
  have hfs : Fence.wide.fn 88 := trivial
  generalize hnE : j.Ends.length = nE at *
  have HNE := Lib.hid hnE
  generalize hnL : j.Loads.length = nL at *
  generalize hnG : j.Grades.length = nG at *
  have HNG := Lib.hid hnG
  generalize hnl : l.length = nl at *
  have HNl := Lib.hid hnl
  clear hnE hnL hnG hnl
  obtain ⟨w4, hw4⟩ : ∃ w4, ((((w.alloc (.cells #[.slice AE nE cE, .slice AL nL cL, .slice AG nG cG, .int .i64 j.Factor, .int .i64 j.Over] 36)).alloc (.cells #[.slice A nl c] 37)).alloc (.cells #[.int .i64 0] 2)).alloc (.cells #[.slice AE nE cE, .slice AL nL cL, .slice AG nG cG, .int .i64 j.Factor, .int .i64 j.Over] 36)) = w4 := ⟨_, rfl⟩
  have b0 : Box w4 w.heap.size 36 #[.slice AE nE cE, .slice AL nL cL, .slice AG nG cG, .int .i64 j.Factor, .int .i64 j.Over] := by rw [← hw4]; exact (((Box.new w _ _ rfl).alloc _).alloc _).alloc _
  have b1 : Box w4 (w.heap.size + 1) 37 #[.slice A nl c] := by rw [← hw4]; exact ((Box.new _ _ _ (by simp)).alloc _).alloc _
  have b2 : Box w4 (w.heap.size + 1 + 1) 2 #[.int .i64 0] := by rw [← hw4]; exact (Box.new _ _ _ (by simp)).alloc _
  have b3 : Box w4 (w.heap.size + 1 + 1 + 1) 36 #[.slice AE nE cE, .slice AL nL cL, .slice AG nG cG, .int .i64 j.Factor, .int .i64 j.Over] := by rw [← hw4]; exact Box.new _ _ _ (by simp)
  have hB4 : Below w.heap.size w w4 := by rw [← hw4]; exact (by repeat (first | exact Below.refl _ _ | assumption | refine Below.setCell ?_ (by first | (simp; done) | (simp; omega)) _ | refine belowDrewN ?_ _ | refine Below.drew ?_ | refine Below.alloc ?_ (by first | (simp; done) | (simp; omega)) _))
  have hs4 : w4.heap.size = w.heap.size + 1 + 1 + 1 + 1 := by rw [← hw4]; simp
  have HW4 := Lib.hid hw4
  have HS4 := Lib.hid hs4
  clear hw4 hs4
  refine (callsIn_wide (n := 10)).1 ?_
  refine callsIn_of_wp_marks Try.func55 rfl trivial ?_ rfl
  simp only [Try.ntmps55, List.size_toArray, List.length_cons, List.length_nil, Nat.reduceAdd, Nat.reduceSub, Array.replicate_succ, Array.replicate_zero, List.push_toArray, List.append_toArray, List.nil_append, List.cons_append]
  gi_wp2_with fail
  refine (callsIn_wide.2 (casing_sections _ _ _ _ _ _)).mono ?_
  rintro e w' ⟨rfl, rfl⟩
  rw [HW4.out]
  gi_wp2_with fail
  have hfs1 : Fence.wide.fn 106 := trivial
  refine range_idx rfl (by omega) (gf := 106) (lb := #[.pointer (some ⟨w.heap.size + 1 + 1 + 1, 0, none⟩)]) rfl trivial enters_sections1
    (sections_iter 9 (w.heap.size + 1 + 1 + 1) w.heap.size AE cE j.Ends HC.out.few (by omega)) (fun _ => rfl)
    ?rd ?rdc
    (fun k W => Box W w.heap.size 36 #[.slice AE nE cE, .slice AL nL cL, .slice AG nG cG, .int .i64 j.Factor, .int .i64 j.Over] ∧ Box W (w.heap.size + 1) 37 #[.slice A nl c] ∧ Box W (w.heap.size + 1 + 1) 2 #[.int .i64 (sumFrom (costOf j l) 0 k)] ∧ Below w.heap.size w W)
    (fun _ _ _ => False) ?ic ?ixc ?i0
    (fun k a' W => ∃ bs, w.heap.size + 1 + 1 + 1 < bs ∧ Box W bs 116 #[.int .i64 (topOf j.Ends k), .int .i64 (pick j.Ends k)] ∧ a' = { tmps := #[.agg #[.slice AE nE cE, .slice AL nL cL, .slice AG nG cG, .int .i64 j.Factor, .int .i64 j.Over], .slice A nl c, .pointer (some ⟨w.heap.size, 0, none⟩), .pointer (some ⟨w.heap.size + 1, 0, none⟩), .int .i64 0, .pointer (some ⟨w.heap.size + 1 + 1, 0, none⟩), .int .i64 k, .pointer (some ⟨bs, 0, none⟩), .agg #[.slice AE nE cE, .slice AL nL cL, .slice AG nG cG, .int .i64 j.Factor, .int .i64 j.Over], .func (.func 106) #[] #[.pointer (some ⟨w.heap.size + 1 + 1 + 1, 0, none⟩)], .int .i64 k, .agg #[.int .i64 (topOf j.Ends k), .int .i64 (pick j.Ends k)], undef, undef, undef, undef, undef, undef, undef, undef, undef, undef, undef, undef, undef, undef, undef, undef, undef, undef], defers := [] })
    ?axc ?assign ?body ?done ?stop
  case rd => exact ⟨by have := b3.cell 0; rw [HNE.out]; exact this, HE.out.up hB4 (Nat.le_refl _)⟩
  case rdc => exact fun W W' h hc => h.calm hc
  case ic => exact fun k W W' h hc => ⟨h.1.calm hc, h.2.1.calm hc, h.2.2.1.calm hc, below_calm h.2.2.2 hc (by rw [HS4.out]; omega)⟩
  case ixc => exact fun _ _ _ _ h _ => h
  case i0 => exact ⟨b0, b1, b2, hB4⟩
  case axc => 
    rintro k a' W W' ⟨bs, h1, h2, h3⟩ hc
    exact ⟨bs, h1, h2.calm hc, h3⟩
  case assign =>
    rintro L k W K hk hi hr hsz hK
    rw [HS4.out] at hsz
    have HKK := Lib.hid hK
    clear hK hi hr
    simp only [secEnc]
    gi_wp2_with fail
    refine HKK.out _ _ ((Below.refl _ _).alloc (Nat.le_refl _) _) ⟨W.heap.size, by omega, Box.new _ _ _ rfl, rfl⟩
  case body =>
    rintro L k a' W hk ⟨c0, c1, c2, hB⟩ hr ⟨bs, hbs, cs, rfl⟩ hsz
    have hkl : k < l.length := by rw [HC.out.same]; exact hk
    obtain ⟨lb, loff, rfl, hlb, hlc⟩ := HL.out (by omega)
    obtain ⟨gb, goff, rfl, hgb, hgc⟩ := HG.out (by have := (HC.out.grades k hkl).2; omega)
    obtain ⟨hg0, hg1⟩ := HC.out.grades k hkl
    have e1 := oldCell hB hlb (hlc k hkl)
    obtain ⟨_, _, _, _, g4⟩ := hgc _ hg1
    have e2 := oldCell hB hgb g4
    clear hlc hgc g4
    have hsec := HC.out.sec hkl
    have hcost := HC.out.cost hkl
    have hsum := sumFrom_bounds (costOf j l) 0 k 1099511627776 (fun i _ hi => HC.out.cost (by omega))
    have hsl := Lib.hid (sumFrom_last (costOf j l) 0 k)
    have hdef : Hid (costOf j l k = (gd j.Grades (pick l k).toNat).Cost * (pick j.Ends k - topOf j.Ends k)) := rfl
    rw [hdef.out] at hcost
    unfold bottom top at hsec
    obtain ⟨hc0, hc1⟩ := hcost
    obtain ⟨hsum0, hsum1⟩ := hsum
    obtain ⟨hsec0, hsec1⟩ := hsec
    have hk5 : k ≤ 5 := by have := HC.out.few; omega
    have hgi : pick l k < (nG : Int) := by rw [← HNG.out]; omega
    have hend := HC.out.ends k hk
    have htop := HC.out.top0 k hk
    obtain ⟨hend0, hend1⟩ := hend
    have hkn : (k : Int) < (nl : Int) := by rw [← HNl.out]; omega
    have HR := Lib.hid hr
    generalize hS : sumFrom (costOf j l) 0 k = S at *
    have HS := Lib.hid hS
    clear hS hr hk hkl hg1
    have q02 := c0.cell 2
    have q10 := c1.cell 0
    have q20 := c2.cell 0
    have q21 := c2.frozen 0
    have q30 := cs.cell 0
    have q31 := cs.cell 1
    simp only [List.getElem?_toArray, List.getElem?_cons_zero, List.getElem?_cons_succ] at q02 q10 q20 q30 q31
    gi_wp2_with fail
    refine region_tail 17 mixed (by kernel_rfl) (by kernel_rfl) ?_
    simp only [List.take_succ_cons, List.take_zero, List.drop_succ_cons, List.drop_zero]
    repeat still_step
    refine wpStill_nil ?_
    gi_wp2_with fail
    refine ⟨keeps_drew (keeps_set W _ _), ⟨(c0.far (by simp; omega) _).drew, (c1.far (by simp) _).drew, ?_, (hB.setCell (p := ⟨w.heap.size + 1 + 1, 0, none⟩) (by simp; omega) _).drew⟩, (HR.out.set_ (p := ⟨w.heap.size + 1 + 1, 0, none⟩) (by simp; omega) (by simp) _).drew⟩
    have := c2.set_ 0 (.int .i64 (S + (gd j.Grades (pick l k).toNat).Cost * (pick j.Ends k - topOf j.Ends k)))
    rw [hsl.out, Nat.zero_add, hdef.out]
    exact this
  case done =>
    rintro W ⟨c0, c1, c2, hB⟩ hK
    have q2 := c2.cell 0
    simp only [List.getElem?_toArray, List.getElem?_cons_zero] at q2
    gi_wp2_with fail
    refine ⟨by simp, .inl ⟨_, _, rfl, run_takeDeferred hK, ?_⟩⟩
    refine ⟨_, results_tmp rfl _ _ _, ?_, hB.trans (belowK_b (w := w) (Nat.le_refl _) W w4.heap.size _ _ (by rw [HS4.out]; omega) hK rfl rfl)⟩
    have hx := HC.out.same
    rw [HNE.out, HNl.out] at hx
    show Ending.returned (.int .i64 (sumFrom (costOf j l) 0 j.Ends.length)) = _
    rw [HNE.out, hx]
  case stop =>
    rintro c k W _ h _
    exact h.elim

end Go.Proofs.Ytannipfohicpmaa
