/- Walks of the reference of layer 5: the pulls. -/
import Derived.Test.YtannipfohicpmaaRefCost
import Derived.Test.YtannipfohicpmaaKit
import Derived.Test.YtannipfohicpmaaLawPulls
namespace Go.Proofs.Ytannipfohicpmaa
open Go.RowKit Go.Shelf Mpl

set_option maxHeartbeats 8000000 in
set_option maxRecDepth 100000 in
theorem ref05_Pulls (j : Job) (l : List Int) (v0 : Value) (A : Option Addr) (c : Nat) (w : World) (hv : JobV w w.heap.size v0 j) (hl : Ints w w.heap.size A l) (hnl : l.length ≤ 1000) :
    Calls Try.prog 26 #[v0, .slice A l.length c] w fun e w' => (∃ A' c', e = .returned (.slice A' (pullsOf j l).length c') ∧ Ints w' w'.heap.size A' (pullsOf j l)) ∧ Below w.heap.size w w' := by
  have HV := Lib.hid hv
  obtain ⟨AE, cE, AL, cL, AG, cG, rfl, _, hE, _, hG⟩ := hv
  have HL := Lib.hid hl
  have HE := Lib.hid hE
  have HG := Lib.hid hG
  have HFA := Lib.hid (fun W (hW : Below w.heap.size w W) => ref05_fair j l _ A c W (HV.out.below hW) (hl.up hW hW.size) hnl)
  have hR : Hid (pullsOf j l = if isChoice j l then (List.range l.length).map (pullOf j l) else []) := rfl
  have HBG := Lib.hid (fun k W (hW : Below w.heap.size w W) (hk : k < j.Ends.length) hm => ref05_begin j _ k W (HV.out.below hW) hk hm)
  have hpd : Hid (∀ i, pullOf j l i = j.Over + sumFrom (weightOf j l) i (l.length - i)) := fun _ => rfl
  clear hl hE hG
  generalize hnE : j.Ends.length = nE at *
  generalize j.Loads.length = nL at *
  generalize hnG : j.Grades.length = nG at *
  generalize hnl' : l.length = nl at *
  have HNE := Lib.hid hnE
  have HNG := Lib.hid hnG
  have HNl := Lib.hid hnl'
  clear hnE hnG hnl'
  have HB := Lib.hid ((Below.refl w.heap.size w).alloc (Nat.le_refl _) (.cells #[.slice AE nE cE, .slice AL nL cL, .slice AG nG cG, .int .i64 j.Factor, .int .i64 j.Over] 36))
  have B0 := Lib.hid (Box.new w 36 #[.slice AE nE cE, .slice AL nL cL, .slice AG nG cG, .int .i64 j.Factor, .int .i64 j.Over] rfl)
  cases hi : isChoice j l
  · rw [hi] at HFA hR
    clear hi
    have hz : Hid (pullsOf j l = []) := hR.out
    go_enter Try.func26, Try.ntmps26
    go_wp2_with fail
    refine (HFA.out _ HB.out).mono ?_
    rintro e w1 ⟨rfl, hb1⟩
    go_wp2_with fail
    go_ret
    rw [hz.out]
    exact ⟨⟨none, 0, rfl, fun h => absurd h (by simp)⟩, HB.out.trans (hb1.mono HB.out.size)⟩
  have hC := isChoice_chosen hi
  rw [hi] at HFA hR
  have HC := Lib.hid hC
  have hR2 : Hid (pullsOf j l = (List.range nl).map (pullOf j l)) := hR.out
  have h5 : nl ≤ 5 := by have := hC.few; have := hC.same; rw [← HNl.out]; omega
  have hsame : Hid (nl = nE) := by unfold Hid; rw [← HNl.out, ← HNE.out]; exact hC.same
  clear hi hC hR
  obtain ⟨i0, hi0, hz0, hz1, hz2⟩ := info_parts info_int64
  go_enter Try.func26, Try.ntmps26
  go_wp2_with fail
  refine (HFA.out _ HB.out).mono ?_
  rintro e w0 ⟨rfl, hb0⟩
  replace B0 := Lib.hid (B0.out.under hb0)
  replace HB := Lib.hid (HB.out.trans (hb0.mono HB.out.size))
  have hlt0 := B0.out.lt
  clear hb0 HFA
  go_wp2_with fail
  go_loopw [5, 6] (fun s5 s6 wr => ∃ k : Nat, k ≤ nl ∧ s6 = .int .i64 k ∧ Hid (wr.ownsRow w0.heap.size 2 1 s5 k (((List.range k).map (pullOf j l)).map (Value.int .i64))) ∧ Hid (Below w0.heap.size w0 wr)) (fun _ s6 _ => nl - (intOf s6).toNat)
  case atStart => exact ⟨0, Nat.zero_le _, rfl, World.ownsRow_nil _ _ _ _, Below.refl _ _⟩
  case round =>
    obtain ⟨k, hk, rfl, hown, BW⟩ := hrel
    have BB := Lib.hid (HB.out.trans (BW.out.mono HB.out.size))
    by_cases hlt : k < nl
    · obtain ⟨q0, q1, q2, q3, q4⟩ := job_box (B0.out.under BW.out)
      have hov := HC.out.over
      obtain ⟨hov1, hov2⟩ := hov
      have d1 : decide (k < nl) = true := decide_eq_true hlt
      go_wp2_with fail
      clear q0 q1 q2 q3 q4 d1
      obtain ⟨wo, hwo⟩ : ∃ wo : World, wo = wr := ⟨_, rfl⟩
      rw [← hwo] at hown BW BB
      rw [← hwo]
      clear hwo
      go_loopw [7, 8] (fun s7 s8 wr => ∃ i : Nat, k ≤ i ∧ i ≤ nl ∧ s8 = .int .i64 i ∧ s7 = .int .i64 (j.Over + sumFrom (weightOf j l) k (i - k)) ∧ Hid (Below wo.heap.size wo wr)) (fun _ s8 _ => nl - (intOf s8).toNat)
      case atStart => exact ⟨k, Nat.le_refl _, by omega, rfl, by rw [Nat.sub_self]; simp [sumFrom], Below.refl _ _⟩
      case round =>
        obtain ⟨i, hki, hi, rfl, rfl, BV⟩ := hrel
        have BW2 := Lib.hid (BW.out.trans (BV.out.mono BW.out.size))
        have BB2 := Lib.hid (BB.out.trans (BV.out.mono BB.out.size))
        by_cases hlt2 : i < nl
        · have d1 : decide (i < nl) = true := decide_eq_true hlt2
          have hkl : i < l.length := by rw [HNl.out]; exact hlt2
          obtain ⟨lb, lo, rfl, hlb, hlc⟩ := HL.out (by omega)
          obtain ⟨eb, eo, rfl, heb, hec⟩ := HE.out (by have := HC.out.same; omega)
          obtain ⟨hg0, hg1⟩ := HC.out.grades i hkl
          obtain ⟨gb, go, rfl, hgb, hgc⟩ := HG.out (by omega)
          obtain ⟨_, _, _, gc3, _⟩ := hgc _ hg1
          have HC1 := Lib.hid (hlc i hkl)
          have HC2 := Lib.hid gc3
          have HC3 := Lib.hid (hec i (by have := HC.out.same; omega))
          clear hlc hec hgc gc3
          have hsec := HC.out.sec hkl
          have hcost := HC.out.weight hkl
          have hsum := sumFrom_bounds (weightOf j l) k (i - k) 1099511627776 (fun t _ ht => HC.out.weight (by omega))
          have h55 : ((i - k : Nat) : Int) * 1099511627776 ≤ 5 * 1099511627776 := Int.mul_le_mul_of_nonneg_right (by omega) (by omega)
          have hsl := Lib.hid (sumFrom_last (weightOf j l) k (i - k))
          have hdef : Hid (weightOf j l i = (gd j.Grades (pick l i).toNat).Weight * (pick j.Ends i - top j i)) := rfl
          rw [hdef.out] at hcost
          have hbd : Hid (bottom j i = pick j.Ends i) := rfl
          rw [hbd.out] at hsec
          have HBE := Lib.hid (HBG.out i · · (by rw [← hsame.out]; exact hlt2) (by rw [← hsame.out]; omega))
          have htop := HC.out.top0 i (by have := HC.out.same; omega)
          have hend := HC.out.ends i (by have := HC.out.same; omega)
          have htd : Hid (topOf j.Ends i = top j i) := rfl
          rw [htd.out] at htop
          have hgi : Hid (pick l i = ((pick l i).toNat : Int)) := by unfold Hid; omega
          have hgn : (pick l i).toNat < nG := by rw [← HNG.out]; exact hg1
          rw [hgi.out] at HC1
          clear hg0 hg1 hgi
          generalize (pick l i).toNat = gi at *
          generalize sumFrom (weightOf j l) k (i - k) = S at *
          generalize pick j.Ends i = ee at *
          generalize top j i = tt at *
          generalize (gd j.Grades gi).Weight = gcost at *
          obtain ⟨hc0, hc1⟩ := hcost
          obtain ⟨hs0, hs1⟩ := hsum
          obtain ⟨hsec0, hsec1⟩ := hsec
          obtain ⟨hend0, hend1⟩ := hend
          go_wp2_with fail
          obtain ⟨p0, p1, p2, p3, p4⟩ := job_box (B0.out.under BW2.out)
          have p5 := oldCell BB2.out hlb HC1.out
          have p6 := oldCell BB2.out hgb HC2.out
          have p7 := oldCell BB2.out heb HC3.out
          have z1 : IntKind.i64.wrap (ee - tt) = ee - tt := IntWalk.i64_in _ (by omega)
          have z2 : IntKind.i64.wrap (gcost * (ee - tt)) = gcost * (ee - tt) := IntWalk.i64_in _ (by omega)
          have z3 : IntKind.i64.wrap (j.Over + S + gcost * (ee - tt)) = j.Over + S + gcost * (ee - tt) := IntWalk.i64_in _ (by omega)
          have z4 : (i : Int) < (nl : Int) := by omega
          have z5 : (i : Int) < (nE : Int) := by rw [← hsame.out]; omega
          have z6 : (gi : Int) < (nG : Int) := by omega
          have z7 : (0 : Int) ≤ (gi : Int) := by omega
          have z8 : ((gi : Int)).toNat = gi := by omega
          have z9 : i < nE := by rw [← hsame.out]; exact hlt2
          clear hc0 hc1 hs0 hs1 hsec0 hsec1 hend0 hend1 htop h55
          go_region_held3 (fun w' => w'.cell? ⟨w.heap.size, 0, none⟩ = some (.slice (some ⟨eb, eo, none⟩) nE cE) ∧ w'.cell? ⟨w.heap.size, 1, none⟩ = some (.slice AL nL cL) ∧ w'.cell? ⟨w.heap.size, 2, none⟩ = some (.slice (some ⟨gb, go, none⟩) nG cG) ∧ w'.cell? ⟨w.heap.size, 3, none⟩ = some (.int .i64 j.Factor) ∧ w'.cell? ⟨w.heap.size, 4, none⟩ = some (.int .i64 j.Over) ∧ w'.cell? ⟨lb, lo + i, none⟩ = some (.int .i64 gi) ∧ w'.cell? ⟨gb, go + gi * 5 + 3, none⟩ = some (.int .i64 gcost) ∧ w'.cell? ⟨eb, eo + i, none⟩ = some (.int .i64 ee))
            (first | exact ⟨p0, p1, p2, p3, p4, p5, p6, p7⟩ | exact ⟨x0, x1, x2, x3, x4, x5, x6, x7⟩)
            (first
              | (go_at_call 54; refine (HBE.out _ BB2.out.drew).mono ?_; rintro e w3 ⟨rfl, hb3⟩; have BW3 := Lib.hid (BW2.out.drew.trans (hb3.mono BW2.out.drew.size)); have BB3 := Lib.hid (BB2.out.drew.trans (hb3.mono BB2.out.drew.size)); have BV3 := Lib.hid (BV.out.drew.trans (hb3.mono BV.out.drew.size)); obtain ⟨x0, x1, x2, x3, x4⟩ := job_box (B0.out.under BW3.out); have x5 := oldCell BB3.out hlb HC1.out; have x6 := oldCell BB3.out hgb HC2.out; have x7 := oldCell BB3.out heb HC3.out)
              | fail)
          go_wp2_with fail
          go_roundw
          case rel => exact ⟨i + 1, by omega, hlt2, by go_num, by rw [show i + 1 - k = (i - k) + 1 by omega, hsl.out, show k + (i - k) = i by omega, hdef.out, Int.add_assoc], BV3⟩
          case measure => simp [intOf]; omega
        · obtain rfl : i = nl := by omega
          have d1 : decide (i < i) = false := decide_eq_false (by omega)
          have hpk : Hid (j.Over + sumFrom (weightOf j l) k (i - k) = pullOf j l k) := (hpd.out k).symm
          rw [hpk.out]
          have O2 := Lib.hid (own_under hown.out BV.out)
          have hsz2 := BW2.out.size
          generalize hpke : pullOf j l k = pk at *
          have HPK := Lib.hid hpke
          clear hpke
          go_wp2_with (at_builtin; refine wpList_append_own _ rfl _ _ 32 rfl w0.heap.size 2 i0 (.int .i64 0) 1 8 Try.underlying32 hi0 hz0 hz1 hz2 rfl (by decide) _ _ _ rfl (O2.out.alloc _) ⟨wr.heap.size, 0, none⟩ 1 1 [.int .i64 pk] rfl rfl ?_ ?_ ?_ ?_ ?_ ?_)
          · exact cells_new wr [.int .i64 pk] 2
          · simp [Value.oneCell']
          · unfold maxLen; omega
          · omega
          · simp; omega
          intro v' w3 hown3 hg3 _
          have HO3 := Lib.hid hown3
          have HB3 := Lib.hid (below_grown (BW2.out.alloc hsz2 _) (O2.out.alloc _) hg3 (by simp; omega))
          clear hown3 hg3
          go_wp2_with fail
          go_roundw
          case rel => exact ⟨k + 1, hlt, by go_num, by unfold Hid; rw [List.range_succ, List.map_append, List.map_append]; simpa [HPK.out] using HO3.out, HB3.out⟩
          case measure => simp [intOf]; omega
    · obtain rfl : k = nl := by omega
      have d1 : decide (k < k) = false := decide_eq_false (by omega)
      obtain ⟨A', c', rfl, _, hI⟩ := Ints.own hown.out
      have HI := Lib.hid hI
      clear hI hown
      go_wp2_with fail
      go_ret
      rw [hR2.out]
      exact ⟨⟨A', c', rfl, HI.out⟩, BB.out⟩

end Go.Proofs.Ytannipfohicpmaa
