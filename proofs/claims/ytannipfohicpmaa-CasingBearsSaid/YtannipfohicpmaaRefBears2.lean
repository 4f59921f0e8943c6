/- Walks of the reference of layer 5: which section does not bear. -/
import Derived.Test.YtannipfohicpmaaRefWhy
import Derived.Test.YtannipfohicpmaaRefPulls
import Derived.Test.YtannipfohicpmaaBears
import Derived.Test.YtannipfohicpmaaChoice
namespace Go.Proofs.Ytannipfohicpmaa
open Go.RowKit Go.Shelf Mpl

set_option maxHeartbeats 8000000 in
set_option maxRecDepth 100000 in
theorem ref05_Bears (j : Job) (l : List Int) (v0 : Value) (A : Option Addr) (c : Nat) (w : World) (hv : JobV w w.heap.size v0 j) (hl : Ints w w.heap.size A l) (hnl : l.length ≤ 1000) :
    Calls Try.prog 23 #[v0, .slice A l.length c] w fun e w' => e = .returned (.tuple #[.int .i64 (bears j l).1, .int .i64 (bears j l).2.1, .int .i64 (bears j l).2.2]) ∧ Below w.heap.size w w' := by
  have HV := Lib.hid hv
  obtain ⟨AE, cE, AL, cL, AG, cG, rfl, _, _, _, hG⟩ := hv
  have HL := Lib.hid hl
  have HG := Lib.hid hG
  have HCK := Lib.hid (fun W (hW : Below w.heap.size w W) => ref05_Check j _ W (HV.out.below hW))
  have HFA := Lib.hid (fun W (hW : Below w.heap.size w W) => ref05_fair j l _ A c W (HV.out.below hW) (hl.up hW hW.size) hnl)
  have HPU := Lib.hid (fun W (hW : Below w.heap.size w W) => ref05_Pulls j l _ A c W (HV.out.below hW) (hl.up hW hW.size) hnl)
  have HWY := Lib.hid (fun (hC : Chosen j l) (k g : Nat) (hk : k < l.length) (hg : g < j.Grades.length) W (hW : Below w.heap.size w W) => ref05_why j k (gd j.Grades g) (pullOf j l k) _ W (HV.out.below hW) (hC.fair g hg) (pullOf_bounds hC k).1 (pullOf_bounds hC k).2 hC.nload (by rw [← hC.same]; exact hk) (Nat.le_trans hC.few (by decide)))
  have hR : Hid (bears j l = if checkJob j ≠ 0 then (0, 0, checkJob j) else if !isChoice j l then (0, 0, 2) else ((bearsFrom j l 0 l.length).1, (bearsFrom j l 0 l.length).2, 0)) := rfl
  have hpl : Hid (isChoice j l = true → pullsOf j l = (List.range l.length).map (pullOf j l)) := by intro h; rw [pullsOf, if_pos h]
  have hst := Lib.hid (fun k => bearsFrom_step j l k l.length)
  have hwa : Hid (∀ k, whyAt j l k = why j (top j k) (bottom j k) (gd j.Grades (pick l k).toNat) (pullOf j l k)) := fun _ => rfl
  clear hl hG
  generalize j.Ends.length = nE at *
  generalize j.Loads.length = nL at *
  generalize hnG : j.Grades.length = nG at *
  generalize hnl' : l.length = nl at *
  have HNG := Lib.hid hnG
  have HNl := Lib.hid hnl'
  clear hnG hnl'
  have HB := Lib.hid ((Below.refl w.heap.size w).alloc (Nat.le_refl _) (.cells #[.slice AE nE cE, .slice AL nL cL, .slice AG nG cG, .int .i64 j.Factor, .int .i64 j.Over] 36))
  have B0 := Lib.hid (Box.new w 36 #[.slice AE nE cE, .slice AL nL cL, .slice AG nG cG, .int .i64 j.Factor, .int .i64 j.Over] rfl)
  generalize bears j l = res at *
  generalize checkJob j = r at *
  by_cases h1 : r = 0
  case neg =>
    have h1' : (r != 0) = true := by simpa using h1
    go_enter Try.func23, Try.ntmps23
    go_wp2_with fail
    refine (HCK.out _ HB.out).mono ?_
    rintro e w1 ⟨rfl, hb1⟩
    go_wp2_with fail
    refine bodyPost_ret (results_tmp3 rfl _ _ _) rfl ?_
    exact ⟨by rw [hR.out, if_pos h1]; rfl, HB.out.trans (hb1.mono HB.out.size)⟩
  subst h1
  cases hi : isChoice j l
  · rw [hi] at HFA hR
    clear hi hpl
    go_enter Try.func23, Try.ntmps23
    go_wp2_with fail
    refine (HCK.out _ HB.out).mono ?_
    rintro e w1 ⟨rfl, hb1⟩
    have HB1 := Lib.hid (HB.out.trans (hb1.mono HB.out.size))
    obtain ⟨q0, q1, q2, q3, q4⟩ := job_box (B0.out.under hb1)
    clear hb1
    go_wp2_with fail
    refine (HFA.out _ HB1.out).mono ?_
    rintro e w2 ⟨rfl, hb2⟩
    go_wp2_with fail
    refine bodyPost_ret (results_tmp3 rfl _ _ _) rfl ?_
    exact ⟨by rw [hR.out]; rfl, HB1.out.trans (hb2.mono HB1.out.size)⟩
  have hC := isChoice_chosen hi
  replace hpl := Lib.hid (hpl.out hi)
  replace HWY := Lib.hid (HWY.out hC)
  rw [hi] at HFA hR
  rw [hpl.out] at HPU
  have HC := Lib.hid hC
  have h5 : nl ≤ 5 := by have := hC.few; have := hC.same; rw [← HNl.out]; omega
  have hR2 : Hid (res = ((bearsFrom j l 0 nl).1, (bearsFrom j l 0 nl).2, 0)) := hR.out
  clear hi hC hR
  go_enter Try.func23, Try.ntmps23
  go_wp2_with fail
  refine (HCK.out _ HB.out).mono ?_
  rintro e w1 ⟨rfl, hb1⟩
  have HB1 := Lib.hid (HB.out.trans (hb1.mono HB.out.size))
  have B1 := Lib.hid (B0.out.under hb1)
  obtain ⟨q0, q1, q2, q3, q4⟩ := job_box B1.out
  clear hb1
  go_wp2_with fail
  refine (HFA.out _ HB1.out).mono ?_
  rintro e w2 ⟨rfl, hb2⟩
  have HB2 := Lib.hid (HB1.out.trans (hb2.mono HB1.out.size))
  have B2 := Lib.hid (B1.out.under hb2)
  clear hb2 q0 q1 q2 q3 q4
  obtain ⟨q0, q1, q2, q3, q4⟩ := job_box B2.out
  go_wp2_with fail
  refine (HPU.out _ HB2.out).mono ?_
  rintro e w3 ⟨⟨AP, cP, rfl, hP⟩, hb3⟩
  have HB3 := Lib.hid (HB2.out.trans (hb3.mono HB2.out.size))
  have B3 := Lib.hid (B2.out.under hb3)
  have HP := Lib.hid hP
  clear hb3 hP q0 q1 q2 q3 q4
  rw [show ((List.range nl).map (pullOf j l)).length = nl by simp]
  go_wp2_with fail
  go_loopw [9] (fun s9 wr => ∃ k : Nat, k ≤ nl ∧ s9 = .int .i64 k ∧ Hid (bearsFrom j l k (nl - k) = bearsFrom j l 0 nl) ∧ Hid (Below w3.heap.size w3 wr)) (fun s9 _ => nl - (intOf s9).toNat)
  case atStart => exact ⟨0, Nat.zero_le _, rfl, rfl, Below.refl _ _⟩
  case round =>
    obtain ⟨k, hk, rfl, hr, BW⟩ := hrel
    have BB := Lib.hid (HB3.out.trans (BW.out.mono HB3.out.size))
    by_cases hlt : k < nl
    · have t1 : decide (k < nl) = true := decide_eq_true hlt
      have hkl : k < l.length := by rw [HNl.out]; exact hlt
      obtain ⟨lb, lo, rfl, hlb, hlc⟩ := HL.out (by omega)
      obtain ⟨pb, po, rfl, hpb, hpc⟩ := HP.out (by simp; omega)
      obtain ⟨hg0, hg1⟩ := HC.out.grades k hkl
      obtain ⟨gb, go, rfl, hgb, hgc⟩ := HG.out (by omega)
      have GC := Lib.hid (hgc _ hg1)
      have LC := Lib.hid (hlc k hkl)
      have PC := Lib.hid (hpc k (by simp; omega))
      rw [pick_map nl (pullOf j l) k hlt] at PC
      have hsk := Lib.hid (hst.out k hlt)
      have hgi : Hid (pick l k = ((pick l k).toNat : Int)) := by unfold Hid; omega
      have hgn : (pick l k).toNat < nG := by rw [← HNG.out]; exact hg1
      have hwk := Lib.hid (hwa.out k)
      have HWK := Lib.hid (HWY.out k (pick l k).toNat hlt hgn)
      unfold gradeV at HWK
      rw [← hwk.out] at HWK
      rw [hgi.out] at LC
      clear hlc hpc hgc hg0 hg1 hgi hwk
      generalize (pick l k).toNat = gi at *
      generalize whyAt j l k = wy at *
      generalize pullOf j l k = pl at *
      generalize hgx : gd j.Grades gi = gx at *
      clear hgx
      go_wp2_with fail
      obtain ⟨p0, p1, p2, p3, p4⟩ := job_box (B3.out.under BW.out)
      have p5 := oldCell BB.out hlb LC.out
      have p6 := oldCell BW.out hpb PC.out
      have p7 := oldCell BB.out hgb GC.out.1
      have p8 := oldCell BB.out hgb GC.out.2.1
      have p9 := oldCell BB.out hgb GC.out.2.2.1
      have p10 := oldCell BB.out hgb GC.out.2.2.2.1
      have p11 := oldCell BB.out hgb GC.out.2.2.2.2
      have z1 : (k : Int) < (nl : Int) := by omega
      have z2 : (0 : Int) ≤ (k : Int) := by omega
      have z3 : ((k : Int)).toNat = k := by omega
      have z4 : (gi : Int) < (nG : Int) := by omega
      have z5 : (0 : Int) ≤ (gi : Int) := by omega
      have z6 : ((gi : Int)).toNat = gi := by omega
      go_region_held3 (fun w' => w'.cell? ⟨w.heap.size, 0, none⟩ = some (.slice AE nE cE) ∧ w'.cell? ⟨w.heap.size, 1, none⟩ = some (.slice AL nL cL) ∧ w'.cell? ⟨w.heap.size, 2, none⟩ = some (.slice (some ⟨gb, go, none⟩) nG cG) ∧ w'.cell? ⟨w.heap.size, 3, none⟩ = some (.int .i64 j.Factor) ∧ w'.cell? ⟨w.heap.size, 4, none⟩ = some (.int .i64 j.Over) ∧ w'.cell? ⟨lb, lo + k, none⟩ = some (.int .i64 gi) ∧ w'.cell? ⟨pb, po + k, none⟩ = some (.int .i64 pl) ∧ w'.cell? ⟨gb, go + gi * 5, none⟩ = some (.int .i64 gx.Burst) ∧ w'.cell? ⟨gb, go + gi * 5 + 1, none⟩ = some (.int .i64 gx.Collapse) ∧ w'.cell? ⟨gb, go + gi * 5 + 2, none⟩ = some (.int .i64 gx.Pull) ∧ w'.cell? ⟨gb, go + gi * 5 + 3, none⟩ = some (.int .i64 gx.Weight) ∧ w'.cell? ⟨gb, go + gi * 5 + 4, none⟩ = some (.int .i64 gx.Cost))
        (first | exact ⟨p0, p1, p2, p3, p4, p5, p6, p7, p8, p9, p10, p11⟩ | exact ⟨x0, x1, x2, x3, x4, x5, x6, x7, x8, x9, x10, x11⟩)
        (first
          | (go_at_call 52; refine (HWK.out _ BB.out.drew).mono ?_; rintro e w5 ⟨rfl, hb5⟩; have BW5 := Lib.hid (BW.out.drew.trans (hb5.mono BW.out.drew.size)); have BB5 := Lib.hid (BB.out.drew.trans (hb5.mono BB.out.drew.size)); clear hb5; obtain ⟨x0, x1, x2, x3, x4⟩ := job_box (B3.out.under BW5.out); have x5 := oldCell BB5.out hlb LC.out; have x6 := oldCell BW5.out hpb PC.out; have x7 := oldCell BB5.out hgb GC.out.1; have x8 := oldCell BB5.out hgb GC.out.2.1; have x9 := oldCell BB5.out hgb GC.out.2.2.1; have x10 := oldCell BB5.out hgb GC.out.2.2.2.1; have x11 := oldCell BB5.out hgb GC.out.2.2.2.2)
          | fail)
      by_cases hq : wy = 0
      · have hq' : (wy != 0) = false := by simp [hq]
        have hnext : Hid (bearsFrom j l (k + 1) (nl - (k + 1)) = bearsFrom j l 0 nl) := by unfold Hid; rw [← hr.out, hsk.out, if_neg (by simp [hq])]
        go_wp2_with fail
        go_roundw
        case rel => exact ⟨k + 1, hlt, by go_num, hnext.out, BW5.out⟩
        case measure => simp [intOf]; omega
      · have hq' : (wy != 0) = true := by simpa using hq
        have hfin : Hid (res = ((k : Int), wy, 0)) := by unfold Hid; rw [hR2.out, ← hr.out, hsk.out, if_pos hq]
        go_wp2_with fail
        refine bodyPost_ret (results_tmp3 rfl _ _ _) rfl ?_
        exact ⟨by rw [hfin.out]; rfl, BB5.out⟩
    · obtain rfl : k = nl := by omega
      have t1 : decide (k < k) = false := decide_eq_false (by omega)
      have hfin : Hid (res = (-1, 0, 0)) := by unfold Hid; rw [hR2.out, ← hr.out, Nat.sub_self, bearsFrom]
      go_wp2_with fail
      refine bodyPost_ret (results_tmp3 rfl _ _ _) rfl ?_
      exact ⟨by rw [hfin.out]; rfl, BB.out⟩

end Go.Proofs.Ytannipfohicpmaa
