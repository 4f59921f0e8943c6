/- Walks of the reference of layer 5: the cost of a choice, the pulls. -/
import Derived.Test.YtannipfohicpmaaRefBears
import Derived.Test.YtannipfohicpmaaAppend
namespace Go.Proofs.Ytannipfohicpmaa
open Go.RowKit Go.Shelf Mpl

set_option maxHeartbeats 8000000 in
set_option maxRecDepth 100000 in
theorem ref05_Cost (j : Job) (l : List Int) (v0 : Value) (A : Option Addr) (c : Nat) (w : World) (hv : JobV w w.heap.size v0 j) (hl : Ints w w.heap.size A l) (hnl : l.length ≤ 1000) :
    Calls Try.prog 28 #[v0, .slice A l.length c] w fun e w' => e = .returned (.int .i64 (cost j l)) ∧ Below w.heap.size w w' := by
  have HV := Lib.hid hv
  obtain ⟨AE, cE, AL, cL, AG, cG, rfl, _, hE, _, hG⟩ := hv
  have HL := Lib.hid hl
  have HE := Lib.hid hE
  have HG := Lib.hid hG
  have HFA := Lib.hid (fun W (hW : Below w.heap.size w W) => ref05_fair j l _ A c W (HV.out.below hW) (hl.up hW hW.size) hnl)
  have hR : Hid (cost j l = if isChoice j l then sumFrom (costOf j l) 0 l.length else 0) := rfl
  have HBG := Lib.hid (fun k W (hW : Below w.heap.size w W) (hk : k < j.Ends.length) hm => ref05_begin j _ k W (HV.out.below hW) hk hm)
  clear hl hE hG
  generalize hnE : j.Ends.length = nE at *
  generalize j.Loads.length = nL at *
  generalize hnG : j.Grades.length = nG at *
  generalize hnl' : l.length = nl at *
  have HNE := Lib.hid hnE
  have HNG := Lib.hid hnG
  have HNl := Lib.hid hnl'
  clear hnE hnG hnl'
  have HB := Lib.hid ((Below.refl w.heap.size w).alloc (Nat.le_refl _) (.cells #[.slice AE nE cE, .slice AL nL cL, .slice AG nG cG, .int .i64 j.Factor, .int .i64 j.Over] 36))
  have B0 := Lib.hid (Box.new w 36 #[.slice AE nE cE, .slice AL nL cL, .slice AG nG cG, .int .i64 j.Factor, .int .i64 j.Over] rfl)
  cases hi : isChoice j l
  · rw [hi] at HFA hR
    clear hi
    have hz : Hid (cost j l = 0) := hR.out
    go_enter Try.func28, Try.ntmps28
    go_wp2_with fail
    refine wp_loop_rounds 1 ?_
    rw [rounds_succ]
    obtain ⟨q0, q1, q2, q3, q4⟩ := job_box B0.out
    go_wp2_with fail
    refine (HFA.out _ HB.out).mono ?_
    rintro e w1 ⟨rfl, hb1⟩
    go_wp2_with fail
    go_ret
    exact ⟨ret_int hz.out.symm, HB.out.trans (hb1.mono HB.out.size)⟩
  have hC := isChoice_chosen hi
  rw [hi] at HFA hR
  have HC := Lib.hid hC
  have hR2 : Hid (cost j l = sumFrom (costOf j l) 0 nl) := hR.out
  have h5 : nl ≤ 5 := by have := hC.few; have := hC.same; rw [← HNl.out]; omega
  have hsame : Hid (nl = nE) := by unfold Hid; rw [← HNl.out, ← HNE.out]; exact hC.same
  clear hi hC hR
  obtain ⟨w0, hw0⟩ : ∃ w0, w.alloc (.cells #[.slice AE nE cE, .slice AL nL cL, .slice AG nG cG, .int .i64 j.Factor, .int .i64 j.Over] 36) = w0 := ⟨_, rfl⟩
  rw [hw0] at HB B0
  have HW0 := Lib.hid hw0
  clear hw0
  go_enter Try.func28, Try.ntmps28
  go_wp2_with fail
  rw [HW0.out]
  go_loopw [5, 6] (fun s5 s6 wr => ∃ k : Nat, k ≤ nl ∧ s6 = .int .i64 k ∧ s5 = .int .i64 (sumFrom (costOf j l) 0 k) ∧ Hid (Below w0.heap.size w0 wr)) (fun _ s6 _ => nl - (intOf s6).toNat)
  case atStart => exact ⟨0, Nat.zero_le _, rfl, rfl, Below.refl _ _⟩
  case round =>
    obtain ⟨k, hk, rfl, rfl, BW⟩ := hrel
    have BB := Lib.hid (HB.out.trans (BW.out.mono HB.out.size))
    obtain ⟨q0, q1, q2, q3, q4⟩ := job_box (B0.out.under BW.out)
    by_cases hlt : k < nl
    · go_wp2_with fail
      refine (HFA.out wr BB.out).mono ?_
      rintro e w2 ⟨rfl, hb2⟩
      have BW2 := Lib.hid (BW.out.trans (hb2.mono BW.out.size))
      have BB2 := Lib.hid (BB.out.trans (hb2.mono BB.out.size))
      clear hb2 q0 q1 q2 q3 q4
      have d1 : decide (k < nl) = true := decide_eq_true hlt
      have hkl : k < l.length := by rw [HNl.out]; exact hlt
      obtain ⟨lb, lo, rfl, hlb, hlc⟩ := HL.out (by omega)
      obtain ⟨eb, eo, rfl, heb, hec⟩ := HE.out (by have := HC.out.same; omega)
      obtain ⟨hg0, hg1⟩ := HC.out.grades k hkl
      obtain ⟨gb, go, rfl, hgb, hgc⟩ := HG.out (by omega)
      obtain ⟨_, _, _, _, gc4⟩ := hgc _ hg1
      have HC1 := Lib.hid (hlc k hkl)
      have HC2 := Lib.hid gc4
      have HC3 := Lib.hid (hec k (by have := HC.out.same; omega))
      clear hlc hec hgc gc4
      have hsec := HC.out.sec hkl
      have hcost := HC.out.cost hkl
      have hsum := sumFrom_bounds (costOf j l) 0 k 1099511627776 (fun i _ hi => HC.out.cost (by omega))
      have hsl := Lib.hid (sumFrom_last (costOf j l) 0 k)
      have hdef : Hid (costOf j l k = (gd j.Grades (pick l k).toNat).Cost * (pick j.Ends k - top j k)) := rfl
      rw [hdef.out] at hcost
      have hbd : Hid (bottom j k = pick j.Ends k) := rfl
      rw [hbd.out] at hsec
      have HBE := Lib.hid (HBG.out k · · (by rw [← hsame.out]; exact hlt) (by rw [← hsame.out]; omega))
      have htop := HC.out.top0 k (by have := HC.out.same; omega)
      have hend := HC.out.ends k (by have := HC.out.same; omega)
      have htd : Hid (topOf j.Ends k = top j k) := rfl
      rw [htd.out] at htop
      have hgi : Hid (pick l k = ((pick l k).toNat : Int)) := by unfold Hid; omega
      have hgn : (pick l k).toNat < nG := by rw [← HNG.out]; exact hg1
      rw [hgi.out] at HC1
      clear hg0 hg1 hgi
      generalize (pick l k).toNat = gi at *
      generalize sumFrom (costOf j l) 0 k = S at *
      generalize pick j.Ends k = ee at *
      generalize top j k = tt at *
      generalize (gd j.Grades gi).Cost = gcost at *
      obtain ⟨hc0, hc1⟩ := hcost
      obtain ⟨hs0, hs1⟩ := hsum
      obtain ⟨hsec0, hsec1⟩ := hsec
      obtain ⟨hend0, hend1⟩ := hend
      go_wp2_with fail
      obtain ⟨p0, p1, p2, p3, p4⟩ := job_box (B0.out.under BW2.out)
      have p5 := oldCell BB2.out hlb HC1.out
      have p6 := oldCell BB2.out hgb HC2.out
      have p7 := oldCell BB2.out heb HC3.out
      have z1 : IntKind.i64.wrap (ee - tt) = ee - tt := IntWalk.i64_in _ (by omega)
      have z2 : IntKind.i64.wrap (gcost * (ee - tt)) = gcost * (ee - tt) := IntWalk.i64_in _ (by omega)
      have z3 : IntKind.i64.wrap (S + gcost * (ee - tt)) = S + gcost * (ee - tt) := IntWalk.i64_in _ (by omega)
      have z4 : (k : Int) < (nl : Int) := by omega
      have z5 : (k : Int) < (nE : Int) := by rw [← hsame.out]; omega
      have z6 : (gi : Int) < (nG : Int) := by omega
      have z7 : (0 : Int) ≤ (gi : Int) := by omega
      have z8 : ((gi : Int)).toNat = gi := by omega
      have z9 : k < nE := by rw [← hsame.out]; exact hlt
      clear hc0 hc1 hs0 hs1 hsec0 hsec1 hend0 hend1 htop
      go_region_held3 (fun w' => w'.cell? ⟨w.heap.size, 0, none⟩ = some (.slice (some ⟨eb, eo, none⟩) nE cE) ∧ w'.cell? ⟨w.heap.size, 1, none⟩ = some (.slice AL nL cL) ∧ w'.cell? ⟨w.heap.size, 2, none⟩ = some (.slice (some ⟨gb, go, none⟩) nG cG) ∧ w'.cell? ⟨w.heap.size, 3, none⟩ = some (.int .i64 j.Factor) ∧ w'.cell? ⟨w.heap.size, 4, none⟩ = some (.int .i64 j.Over) ∧ w'.cell? ⟨lb, lo + k, none⟩ = some (.int .i64 gi) ∧ w'.cell? ⟨gb, go + gi * 5 + 4, none⟩ = some (.int .i64 gcost) ∧ w'.cell? ⟨eb, eo + k, none⟩ = some (.int .i64 ee))
        (first | exact ⟨p0, p1, p2, p3, p4, p5, p6, p7⟩ | exact ⟨x0, x1, x2, x3, x4, x5, x6, x7⟩)
        (first
          | (go_at_call 54; refine (HBE.out _ BB2.out.drew).mono ?_; rintro e w3 ⟨rfl, hb3⟩; have BW3 := Lib.hid (BW2.out.drew.trans (hb3.mono BW2.out.drew.size)); have BB3 := Lib.hid (BB2.out.drew.trans (hb3.mono BB2.out.drew.size)); obtain ⟨x0, x1, x2, x3, x4⟩ := job_box (B0.out.under BW3.out); have x5 := oldCell BB3.out hlb HC1.out; have x6 := oldCell BB3.out hgb HC2.out; have x7 := oldCell BB3.out heb HC3.out)
          | fail)
      go_wp2_with fail
      go_roundw
      case rel => exact ⟨k + 1, hlt, by go_num, by rw [hsl.out, Nat.zero_add, hdef.out], BW3⟩
      case measure => simp [intOf]; omega
    · obtain rfl : k = nl := by omega
      have d1 : decide (k < k) = false := decide_eq_false (by omega)
      go_wp2_with fail
      refine (HFA.out wr BB.out).mono ?_
      rintro e w2 ⟨rfl, hb2⟩
      go_wp2_with fail
      go_ret
      exact ⟨ret_int hR2.out.symm, BB.out.trans (hb2.mono BB.out.size)⟩

end Go.Proofs.Ytannipfohicpmaa
