/- Walks of the package casing: the pulls of a choice. -/
import Derived.Test.YtannipfohicpmaaCost
namespace Go.Proofs.Ytannipfohicpmaa
open Go.RowKit Go.Shelf Mpl
attribute [local go_sem] Oper.semAt_some

/-- a row of n cells -/
def mkRow (n : Nat) (f : Nat → Int) : Array Value := ((List.range n).map fun t => Value.int .i64 (f t)).toArray
theorem mkRow_get? (n : Nat) (f : Nat → Int) (t : Nat) : (mkRow n f)[t]? = if t < n then some (.int .i64 (f t)) else none := by
  unfold mkRow
  by_cases h : t < n <;> simp [h]
theorem mkRow_get (n : Nat) (f : Nat → Int) (t : Nat) (h : t < n) : (mkRow n f)[t]? = some (.int .i64 (f t)) := by rw [mkRow_get?, if_pos h]
theorem mkRow_size (n : Nat) (f : Nat → Int) : (mkRow n f).size = n := by simp [mkRow]
theorem mkRow_set (n : Nat) (f : Nat → Int) (i : Nat) (v : Int) : (mkRow n f).setIfInBounds i (.int .i64 v) = mkRow n (fun t => if t = i then v else f t) := by
  apply Array.ext_getElem?
  intro k
  rw [Array.getElem?_setIfInBounds, mkRow_size, mkRow_get?, mkRow_get?]
  by_cases e : i = k
  · subst e; simp
  · have e' : ¬ k = i := fun h => e h.symm
    simp [e, e']
theorem mkRow_congr (n : Nat) (f g : Nat → Int) (h : ∀ t, t < n → f t = g t) : mkRow n f = mkRow n g := by
  unfold mkRow
  congr 1
  exact List.map_congr_left fun t ht => by rw [h t (List.mem_range.1 ht)]
theorem mkRow_zero (n : Nat) : madeCells #[Value.int .i64 0] (n * 1) = mkRow n (fun _ => 0) := by
  apply Array.ext_getElem?
  intro k
  rw [mkRow_get?, Nat.mul_one]
  unfold madeCells
  by_cases h : k < n <;> simp [h, Nat.mod_one]

theorem run_make_int64 (n : Nat) (hn : n ≤ 1000) (w : World) :
    (Instr.makeSlice 32 (.int .i64 (n : Int)) (.int .i64 (n : Int))).run Try.prog w = .ok (.slice (some ⟨w.heap.size, 0, none⟩) n n) (w.alloc (.cells (mkRow n (fun _ => 0)) 2)) := by
  obtain ⟨i0, hi, hz0, hz1, hz2⟩ := info_parts info_int64
  have hr := run_make (P := Try.prog) w 32 2 i0 (.int .i64 0) Try.underlying32 hi hz0 .i64 .i64 n n (by omega) (by omega) (by rw [hz2]; omega) (by omega)
  simp only [Int.toNat_natCast] at hr
  rw [hr, hz1]
  show _ = Result.ok _ (w.alloc (.cells _ _))
  rw [← mkRow_zero]
  rfl

/-- the row of sums behind k rounds -/
def sums (j : Job) (l : List Int) (k t : Nat) : Int := sumFrom (weightOf j l) t (k - t)
theorem sums_step (j : Job) (l : List Int) (k t : Nat) (h : t ≤ k) : sums j l (k + 1) t = sums j l k t + weightOf j l k := by
  unfold sums
  rw [show k + 1 - t = (k - t) + 1 by omega, sumFrom_last, show t + (k - t) = k by omega]
theorem sums_none (j : Job) (l : List Int) (k t : Nat) (h : k < t) : sums j l (k + 1) t = sums j l k t := by
  unfold sums
  rw [show k + 1 - t = 0 by omega, show k - t = 0 by omega]
theorem sums_bounds {j : Job} {l : List Int} (hc : Chosen j l) (k t : Nat) (hk : k ≤ l.length) : 0 ≤ sums j l k t ∧ sums j l k t ≤ 5497558138880 := by
  have h5 := hc.few
  have hs := hc.same
  have := sumFrom_bounds (weightOf j l) t (k - t) 1099511627776 (fun i _ h2 => hc.weight (by omega))
  unfold sums
  have h2 : ((k - t : Nat) : Int) ≤ 5 := by omega
  omega

/-- a row that a call has made: a slice of n numbers from block B on -/
structure RowV (w : World) (B : Nat) (v : Value) (n : Nat) (f : Nat → Int) : Prop where
  form : ∃ g c, v = .slice (some ⟨g, 0, none⟩) n c ∧ n ≤ c ∧ B ≤ g ∧ Box w g 2 (mkRow c f)

set_option maxHeartbeats 4000000 in
set_option maxRecDepth 100000 in
theorem casing_pulls (j : Job) (l : List Int) (v0 : Value) (A : Option Addr) (c : Nat) (w : World) (hv : JobV w w.heap.size v0 j) (hl : Ints w w.heap.size A l) (hc : Chosen j l) :
    Calls Try.prog 53 #[v0, .slice A l.length c] w fun e w' => ∃ g, e = .returned (.slice (some ⟨g, 0, none⟩) l.length l.length) ∧ w.heap.size ≤ g ∧ Box w' g 2 (mkRow l.length (pullOf j l)) ∧ Below w.heap.size w w' := by
  obtain ⟨AE, cE, AL, cL, AG, cG, rfl, hcap, hE, hL, hG⟩ := hv
  have HE := Lib.hid hE
  have HG := Lib.hid hG
  have HL := Lib.hid hl
  have HC := Lib.hid hc
  clear hE hL hG hl hcap hc
  have hfs : Fence.wide.fn 88 := trivial
  generalize hnE : j.Ends.length = nE at *
  have HNE := Lib.hid hnE
  generalize hnL : j.Loads.length = nL at *
  generalize hnG : j.Grades.length = nG at *
  have HNG := Lib.hid hnG
  generalize hnl : l.length = nl at *
  have HNl := Lib.hid hnl
  clear hnE hnL hnG hnl
  have hnl5 : nl ≤ 5 := by have := HC.out.few; have := HC.out.same; rw [← HNl.out]; omega
  have hmk := run_make_int64 nl (by omega)
  obtain ⟨w5, hw5⟩ : ∃ w5, (((((w.alloc (.cells #[.slice AE nE cE, .slice AL nL cL, .slice AG nG cG, .int .i64 j.Factor, .int .i64 j.Over] 36)).alloc (.cells #[.slice A nl c] 37)).alloc (.cells (mkRow nl (fun _ => 0)) 2)).alloc (.cells #[.slice (some ⟨w.heap.size + 1 + 1, 0, none⟩) nl nl] 32)).alloc (.cells #[.slice AE nE cE, .slice AL nL cL, .slice AG nG cG, .int .i64 j.Factor, .int .i64 j.Over] 36)) = w5 := ⟨_, rfl⟩
  have b0 : Box w5 w.heap.size 36 #[.slice AE nE cE, .slice AL nL cL, .slice AG nG cG, .int .i64 j.Factor, .int .i64 j.Over] := by rw [← hw5]; exact ((((Box.new w _ _ rfl).alloc _).alloc _).alloc _).alloc _
  have b1 : Box w5 (w.heap.size + 1) 37 #[.slice A nl c] := by rw [← hw5]; exact (((Box.new _ _ _ (by simp)).alloc _).alloc _).alloc _
  have b2 : Box w5 (w.heap.size + 1 + 1) 2 (mkRow nl (fun _ => 0)) := by rw [← hw5]; exact ((Box.new _ _ _ (by simp)).alloc _).alloc _
  have b3 : Box w5 (w.heap.size + 1 + 1 + 1) 32 #[.slice (some ⟨w.heap.size + 1 + 1, 0, none⟩) nl nl] := by rw [← hw5]; exact (Box.new _ _ _ (by simp)).alloc _
  have b4 : Box w5 (w.heap.size + 1 + 1 + 1 + 1) 36 #[.slice AE nE cE, .slice AL nL cL, .slice AG nG cG, .int .i64 j.Factor, .int .i64 j.Over] := by rw [← hw5]; exact Box.new _ _ _ (by simp)
  have hB5 : Below w.heap.size w w5 := by rw [← hw5]; exact (by repeat (first | exact Below.refl _ _ | assumption | refine Below.setCell ?_ (by first | (simp; done) | (simp; omega)) _ | refine belowDrewN ?_ _ | refine Below.drew ?_ | refine Below.alloc ?_ (by first | (simp; done) | (simp; omega)) _))
  have hs5 : w5.heap.size = w.heap.size + 1 + 1 + 1 + 1 + 1 := by rw [← hw5]; simp
  have HW5 := Lib.hid hw5
  have HS5 := Lib.hid hs5
  clear hw5 hs5
  refine (callsIn_wide (n := 10)).1 ?_
  refine callsIn_of_wp_marks Try.func53 rfl trivial ?_ rfl
  simp only [Try.ntmps53, List.size_toArray, List.length_cons, List.length_nil, Nat.reduceAdd, Nat.reduceSub, Array.replicate_succ, Array.replicate_zero, List.push_toArray, List.append_toArray, List.nil_append, List.cons_append]
  gi_wp2_with fail
  refine (callsIn_wide.2 (casing_sections _ _ _ _ _ _)).mono ?_
  rintro e w' ⟨rfl, rfl⟩
  rw [HW5.out]
  gi_wp2_with fail
  have hfs1 : Fence.wide.fn 106 := trivial
  refine range_idx rfl (by omega) (gf := 106) (lb := #[.pointer (some ⟨w.heap.size + 1 + 1 + 1 + 1, 0, none⟩)]) rfl trivial enters_sections1
    (sections_iter 9 (w.heap.size + 1 + 1 + 1 + 1) w.heap.size AE cE j.Ends HC.out.few (by omega)) (fun _ => rfl)
    ?rd ?rdc
    (fun k W => Box W w.heap.size 36 #[.slice AE nE cE, .slice AL nL cL, .slice AG nG cG, .int .i64 j.Factor, .int .i64 j.Over] ∧ Box W (w.heap.size + 1) 37 #[.slice A nl c] ∧ Box W (w.heap.size + 1 + 1) 2 (mkRow nl (sums j l k)) ∧ Box W (w.heap.size + 1 + 1 + 1) 32 #[.slice (some ⟨w.heap.size + 1 + 1, 0, none⟩) nl nl] ∧ Below w.heap.size w W)
    (fun _ _ _ => False) ?ic ?ixc ?i0
    (fun k a' W => ∃ bs, w.heap.size + 1 + 1 + 1 + 1 < bs ∧ Box W bs 116 #[.int .i64 (topOf j.Ends k), .int .i64 (pick j.Ends k)] ∧ a' = { tmps := #[.agg #[.slice AE nE cE, .slice AL nL cL, .slice AG nG cG, .int .i64 j.Factor, .int .i64 j.Over], .slice A nl c, .pointer (some ⟨w.heap.size, 0, none⟩), .pointer (some ⟨w.heap.size + 1, 0, none⟩), .slice none 0 0, .pointer (some ⟨w.heap.size + 1 + 1 + 1, 0, none⟩), .int .i64 k, .pointer (some ⟨bs, 0, none⟩), undef, undef, undef, .slice A nl c, .int .i64 nl, .slice (some ⟨w.heap.size + 1 + 1, 0, none⟩) nl nl, .agg #[.slice AE nE cE, .slice AL nL cL, .slice AG nG cG, .int .i64 j.Factor, .int .i64 j.Over], .func (.func 106) #[] #[.pointer (some ⟨w.heap.size + 1 + 1 + 1 + 1, 0, none⟩)], .int .i64 k, .agg #[.int .i64 (topOf j.Ends k), .int .i64 (pick j.Ends k)], undef, undef, undef, undef, undef, undef, undef, undef, undef, undef, undef, undef, undef, undef, undef, undef, undef, undef, undef, undef, undef, undef, undef, undef, undef, undef, undef, undef, undef, undef, undef, undef, undef, undef, undef, undef, undef, undef, undef, undef, undef, undef, undef, undef, undef, undef], defers := [] })
    ?axc ?assign ?body ?done ?stop
  case rd => exact ⟨by have := b4.cell 0; rw [HNE.out]; exact this, HE.out.up hB5 (Nat.le_refl _)⟩
  case rdc => exact fun W W' h hc => h.calm hc
  case ic => exact fun k W W' h hc => ⟨h.1.calm hc, h.2.1.calm hc, h.2.2.1.calm hc, h.2.2.2.1.calm hc, below_calm h.2.2.2.2 hc (by rw [HS5.out]; omega)⟩
  case ixc => exact fun _ _ _ _ h _ => h
  case i0 => exact ⟨b0, b1, by have := mkRow_congr nl (sums j l 0) (fun _ => 0) (fun t _ => by simp [sums, sumFrom]); rw [this]; exact b2, b3, hB5⟩
  case axc =>
    rintro k a' W W' ⟨bs, h1, h2, h3⟩ hc
    exact ⟨bs, h1, h2.calm hc, h3⟩
  case assign =>
    rintro L k W K hk hi hr hsz hK
    rw [HS5.out] at hsz
    have HKK := Lib.hid hK
    clear hK hi hr hmk
    simp only [secEnc]
    gi_wp2_with fail
    refine HKK.out _ _ ((Below.refl _ _).alloc (Nat.le_refl _) _) ⟨W.heap.size, by omega, Box.new _ _ _ rfl, rfl⟩
  case body =>
    rintro L k a' W hk ⟨c0, c1, c2, c3, hB⟩ hr ⟨bs, hbs, cs, rfl⟩ hsz
    clear hmk
    have hkl : k < l.length := by rw [HC.out.same]; exact hk
    obtain ⟨lb, loff, rfl, hlb, hlc⟩ := HL.out (by omega)
    obtain ⟨gb, goff, rfl, hgb, hgc⟩ := HG.out (by have := (HC.out.grades k hkl).2; omega)
    obtain ⟨hg0, hg1⟩ := HC.out.grades k hkl
    have e1 := oldCell hB hlb (hlc k hkl)
    obtain ⟨_, _, _, g4, _⟩ := hgc _ hg1
    have e2 := oldCell hB hgb g4
    clear hlc hgc g4
    have hsec := HC.out.sec hkl
    have hwt := HC.out.weight hkl
    have hdef : Hid (weightOf j l k = (gd j.Grades (pick l k).toNat).Weight * (pick j.Ends k - topOf j.Ends k)) := rfl
    rw [hdef.out] at hwt
    unfold bottom top at hsec
    obtain ⟨hc0, hc1⟩ := hwt
    obtain ⟨hsec0, hsec1⟩ := hsec
    have hgi : pick l k < (nG : Int) := by rw [← HNG.out]; omega
    obtain ⟨hend0, hend1⟩ := HC.out.ends k hk
    have htop := HC.out.top0 k hk
    have hkn0 : k < nl := by rw [← HNl.out]; omega
    have hkn : (k : Int) < (nl : Int) := by omega
    have HR := Lib.hid hr
    have hbd := Lib.hid (fun t => sums_bounds HC.out k t (by omega))
    have hst := Lib.hid (fun t => sums_step j l k t)
    have hno := Lib.hid (fun t => sums_none j l k t)
    clear hr hk hkl hg1
    have q02 := c0.cell 2
    have q10 := c1.cell 0
    have q30 := cs.cell 0
    have q31 := cs.cell 1
    simp only [List.getElem?_toArray, List.getElem?_cons_zero, List.getElem?_cons_succ] at q02 q10 q30 q31
    gi_wp2_with fail
    refine region_tail 15 mixed (by kernel_rfl) (by kernel_rfl) ?_
    simp only [List.take_succ_cons, List.take_zero, List.drop_succ_cons, List.drop_zero]
    repeat still_step
    refine wpStill_nil ?_
    have hsub : IntKind.i64.wrap (pick j.Ends k - topOf j.Ends k) = pick j.Ends k - topOf j.Ends k := IntWalk.i64_in _ (by omega)
    have hmul : IntKind.i64.wrap ((gd j.Grades (pick l k).toNat).Weight * (pick j.Ends k - topOf j.Ends k)) = (gd j.Grades (pick l k).toNat).Weight * (pick j.Ends k - topOf j.Ends k) := IntWalk.i64_in _ (by omega)
    rw [hsub, hmul]
    clear hsub hmul q02 q10 q30 q31 e1 e2
    generalize hwv : (gd j.Grades (pick l k).toNat).Weight * (pick j.Ends k - topOf j.Ends k) = wv at *
    clear hwv
    have q3 := c3.cell 0
    simp only [List.getElem?_toArray, List.getElem?_cons_zero] at q3
    gi_wp2_with fail
    gi_loopw [38] (fun s38 wr => ∃ t : Nat, t ≤ k + 1 ∧ s38 = .int .i64 t ∧ Hid (Box wr w.heap.size 36 #[.slice AE nE cE, .slice AL nL cL, .slice (some ⟨gb, goff, none⟩) nG cG, .int .i64 j.Factor, .int .i64 j.Over] ∧ Box wr (w.heap.size + 1) 37 #[.slice (some ⟨lb, loff, none⟩) nl c] ∧ Box wr (w.heap.size + 1 + 1) 2 (mkRow nl (fun u => if u < t then sums j l (k + 1) u else sums j l k u)) ∧ Box wr (w.heap.size + 1 + 1 + 1) 32 #[.slice (some ⟨w.heap.size + 1 + 1, 0, none⟩) nl nl] ∧ Below w.heap.size w wr ∧ KeepsFrom w5.heap.size W wr ∧ EndsRead (w.heap.size + 1 + 1 + 1 + 1) w.heap.size AE j.Ends.length cE j.Ends wr)) (fun s38 _ => k + 1 - (intOf s38).toNat)
    case atStart => exact ⟨0, Nat.zero_le _, rfl, c0.drew, c1.drew, (by have := mkRow_congr nl (fun u => if u < 0 then sums j l (k + 1) u else sums j l k u) (sums j l k) (fun t _ => by simp); rw [this]; exact c2.drew), c3.drew, hB.drew, keeps_drew (KeepsFrom.refl _ _), HR.out.drew⟩
    case round =>
      obtain ⟨t, ht, rfl, hrel⟩ := hrel
      by_cases hlt : t < k + 1
      · obtain ⟨d0, d1, d2, d3, hB2, hK2, hR2⟩ := hrel.out
        have HB2 := Lib.hid hB2
        have HK2 := Lib.hid hK2
        have HR2 := Lib.hid hR2
        clear hB2 hK2 hR2 hrel q3
        have r3 := d3.cell 0
        have r2 := d2.cell t
        rw [mkRow_get _ _ _ (by omega), if_neg (by omega)] at r2
        have r2f := d2.frozen t
        simp only [List.getElem?_toArray, List.getElem?_cons_zero] at r3
        obtain ⟨hs0, hs1⟩ := hbd.out t
        have hsx := Lib.hid (hst.out t (by omega))
        have hset := Lib.hid (d2.set_ t (.int .i64 (sums j l k t + wv)))
        have htn : (t : Int) < (nl : Int) := by omega
        generalize sums j l k t = S at *
        have D0 := Lib.hid d0
        have D1 := Lib.hid d1
        have D3 := Lib.hid d3
        clear d0 d1 d2 d3
        gi_wp2_with fail
        go_roundw
        case rel =>
          refine ⟨t + 1, by omega, by go_num, D0.out.far (by simp; omega) _, D1.out.far (by simp) _, ?_, D3.out.far (by simp) _, HB2.out.setCell (p := ⟨w.heap.size + 1 + 1, t, none⟩) (by simp; omega) _, keeps_trans HK2.out (keeps_set _ _ _), HR2.out.set_ (p := ⟨w.heap.size + 1 + 1, t, none⟩) (by simp; omega) (by simp; omega) _⟩
          have := hset.out
          rw [mkRow_set] at this
          rw [mkRow_congr nl (fun u => if u < t + 1 then sums j l (k + 1) u else sums j l k u) (fun u => if u = t then S + wv else if u < t then sums j l (k + 1) u else sums j l k u) (fun u _ => by
            rcases Nat.lt_trichotomy u t with h | h | h
            · rw [if_pos (by omega), if_neg (by omega), if_pos h]
            · subst h; rw [if_pos (by omega), if_pos rfl, hsx.out, hdef.out]
            · rw [if_neg (by omega), if_neg (by omega), if_neg (by omega)])]
          exact this
        case measure => simp [intOf]; omega
      · obtain rfl : t = k + 1 := by omega
        clear q3
        gi_wp2_with fail
        obtain ⟨d0, d1, d2, d3, hB2, hK2, hR2⟩ := hrel.out
        refine ⟨hK2, ⟨d0, d1, ?_, d3, hB2⟩, hR2⟩
        rw [mkRow_congr nl (sums j l (k + 1)) (fun u => if u < k + 1 then sums j l (k + 1) u else sums j l k u) (fun u _ => by
          by_cases h : u < k + 1
          · rw [if_pos h]
          · rw [if_neg h, hno.out u (by omega)])]
        exact d2
  case done =>
    rintro W ⟨c0, c1, c2, c3, hB⟩ hK
    clear hmk
    have hx : nl = nE := by rw [← HNl.out, ← HNE.out]; exact HC.out.same
    rw [HNE.out, ← hx] at c2
    have q3 := c3.cell 0
    simp only [List.getElem?_toArray, List.getElem?_cons_zero] at q3
    have HX := Lib.hid hx
    clear hx
    have hbd := Lib.hid (fun t => sums_bounds HC.out nl t (by rw [HNl.out]; omega))
    have hov := HC.out.over
    obtain ⟨hov0, hov1⟩ := hov
    have C2 := Lib.hid c2
    have HK := Lib.hid hK
    have hpull : Hid (∀ t, pullOf j l t = j.Over + sums j l nl t) := fun t => by unfold pullOf sums; rw [HNl.out]
    clear hK
    gi_wp2_with fail
    refine wpIn_wide.2 ?_
    go_loopw [51] (fun s51 wr => ∃ t : Nat, t ≤ nl ∧ s51 = .int .i64 t ∧ Hid (Box wr w.heap.size 36 #[.slice AE nE cE, .slice AL nL cL, .slice AG nG cG, .int .i64 j.Factor, .int .i64 j.Over] ∧ Box wr (w.heap.size + 1 + 1) 2 (mkRow nl (fun u => if u < t then pullOf j l u else sums j l nl u)) ∧ Box wr (w.heap.size + 1 + 1 + 1) 32 #[.slice (some ⟨w.heap.size + 1 + 1, 0, none⟩) nl nl] ∧ Below w.heap.size w wr ∧ wr.heap[w5.heap.size]? = some (.deferred (some [])))) (fun s51 _ => nl - (intOf s51).toNat)
    case atStart => exact ⟨0, Nat.zero_le _, rfl, c0, (by have := mkRow_congr nl (fun u => if u < 0 then pullOf j l u else sums j l nl u) (sums j l nl) (fun t _ => by simp); rw [this]; exact C2.out), c3, hB, HK.out⟩
    case round =>
      obtain ⟨t, ht, rfl, hrel⟩ := hrel
      by_cases hlt : t < nl
      · obtain ⟨d0, d2, d3, hB2, hK2⟩ := hrel.out
        have HB2 := Lib.hid hB2
        have HK2 := Lib.hid hK2
        clear hB2 hK2 hrel q3
        have r3 := d3.cell 0
        have r2 := d2.cell t
        rw [mkRow_get _ _ _ (by omega), if_neg (by omega)] at r2
        have r2f := d2.frozen t
        have r0 := d0.cell 4
        simp only [List.getElem?_toArray, List.getElem?_cons_zero, List.getElem?_cons_succ] at r3 r0
        obtain ⟨hs0, hs1⟩ := hbd.out t
        have hset := Lib.hid (d2.set_ t (.int .i64 (sums j l nl t + j.Over)))
        have htn : (t : Int) < (nl : Int) := by omega
        have hpt := Lib.hid (hpull.out t)
        generalize sums j l nl t = S at *
        have D0 := Lib.hid d0
        have D3 := Lib.hid d3
        clear d0 d2 d3
        go_wp2_with fail
        refine wp_region_still_tail 8 mixed (by kernel_rfl) ?_
        simp only [List.take_succ_cons, List.take_zero, List.drop_succ_cons, List.drop_zero]
        repeat still_step
        refine wpStill_nil ?_
        have hadd : IntKind.i64.wrap (S + j.Over) = S + j.Over := IntWalk.i64_in _ (by omega)
        rw [hadd]
        clear hadd
        go_wp2_with fail
        go_roundw
        case rel =>
          refine ⟨t + 1, by omega, by go_num, (D0.out.far (by simp; omega) _).drew, ?_, (D3.out.far (by simp) _).drew, (HB2.out.setCell (p := ⟨w.heap.size + 1 + 1, t, none⟩) (by simp; omega) _).drew, (Below.heap_setCell _ _ _ _ (by rw [HS5.out]; simp; omega)).trans HK2.out⟩
          have := hset.out
          rw [mkRow_set] at this
          rw [mkRow_congr nl (fun u => if u < t + 1 then pullOf j l u else sums j l nl u) (fun u => if u = t then S + j.Over else if u < t then pullOf j l u else sums j l nl u) (fun u _ => by
            rcases Nat.lt_trichotomy u t with h | h | h
            · rw [if_pos (by omega), if_neg (by omega), if_pos h]
            · subst h; rw [if_pos (by omega), if_pos rfl, hpt.out]; omega
            · rw [if_neg (by omega), if_neg (by omega), if_neg (by omega)])]
          exact this
        case measure => simp [intOf]; omega
      · obtain rfl : t = nl := by omega
        obtain ⟨d0, d2, d3, hB2, hK2⟩ := hrel.out
        have D2 := Lib.hid d2
        have HB2 := Lib.hid hB2
        have HK2 := Lib.hid hK2
        have r3 := d3.cell 0
        simp only [List.getElem?_toArray, List.getElem?_cons_zero] at r3
        clear hrel q3 d0 d2 d3 hB2 hK2 c0 c1 c2 c3 b0 b1 b2 b3 b4
        go_wp2_with fail
        gi_wp2_with fail
        refine ⟨by simp, .inl ⟨_, _, rfl, run_takeDeferred HK2.out, ?_⟩⟩
        refine ⟨_, results_tmp rfl _ _ _, ⟨_, rfl, by omega, ?_, HB2.out.trans (belowK_b (w := w) (Nat.le_refl _) wr w5.heap.size _ _ (by rw [HS5.out]; omega) HK2.out rfl rfl)⟩⟩
        have := mkRow_congr t (fun u => if u < t then pullOf j l u else sums j l t u) (pullOf j l) (fun u hu => by rw [if_pos hu])
        rw [this] at D2
        exact D2.out.calm (Calm.put (B := 0) _ (by omega) HK2.out rfl)
  case stop =>
    rintro c k W _ h _
    exact h.elim

end Go.Proofs.Ytannipfohicpmaa
