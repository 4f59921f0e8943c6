/- Walks of the reference of layer 5: choices, their cost. -/
import Derived.Test.YtannipfohicpmaaRefCheck2
import Derived.Deep.RegionHeld3
namespace Go.Proofs.Ytannipfohicpmaa
open Go.RowKit Go.Shelf Mpl

set_option maxHeartbeats 1000000 in
theorem ref05_begin (j : Job) (v0 : Value) (k : Nat) (w : World) (hv : JobV w w.heap.size v0 j) (hk : k < j.Ends.length) (hm : j.Ends.length ≤ 1000) :
    Calls Try.prog 54 #[v0, .int .i64 k] w fun e w' => e = .returned (.int .i64 (top j k)) ∧ Below w.heap.size w w' := by
  obtain ⟨AE, cE, AL, cL, AG, cG, rfl, hcap, hE, hL, hG⟩ := hv
  obtain ⟨b, off, rfl, hb, hc⟩ := hE (by omega)
  have ht0 : Hid (k = 0 → top j k = 0) := fun h => by simp [top, topOf, h]
  have ht1 : Hid (0 < k → top j k = pick j.Ends (k - 1)) := fun h => by simp [top, topOf, show k ≠ 0 by omega]
  by_cases h0 : k = 0
  · have hz : ((k : Int) == 0) = true := beq_iff_eq.2 (by omega)
    have hs := Lib.hid (ht0.out h0)
    clear hE hL hG hc ht0 ht1 h0
    generalize j.Ends.length = nE at *
    generalize j.Loads.length = nL at *
    generalize j.Grades.length = nG at *
    go_enter Try.func54, Try.ntmps54
    go_wp2_with fail
    go_ret
    exact ⟨ret_int hs.out.symm, (by repeat (first | exact Below.refl _ _ | assumption | refine Below.setCell ?_ (by first | (simp; done) | (simp; omega)) _ | refine belowDrewN ?_ _ | refine Below.drew ?_ | refine Below.alloc ?_ (by first | (simp; done) | (simp; omega)) _))⟩
  · have hz : ((k : Int) == 0) = false := beq_eq_false_iff_ne.2 (by omega)
    have hs := Lib.hid (ht1.out (by omega))
    have c0 := hc (k - 1) (by omega)
    clear hE hL hG hc ht0 ht1
    have hk1 : 1 ≤ k := by omega
    clear h0
    generalize pick j.Ends (k - 1) = z at *
    generalize j.Ends.length = nE at *
    generalize j.Loads.length = nL at *
    generalize j.Grades.length = nG at *
    go_enter Try.func54, Try.ntmps54
    go_wp2_with fail
    go_ret
    exact ⟨ret_int hs.out.symm, (by repeat (first | exact Below.refl _ _ | assumption | refine Below.setCell ?_ (by first | (simp; done) | (simp; omega)) _ | refine belowDrewN ?_ _ | refine Below.drew ?_ | refine Below.alloc ?_ (by first | (simp; done) | (simp; omega)) _))⟩

set_option maxHeartbeats 4000000 in
set_option maxRecDepth 100000 in
theorem ref05_fair (j : Job) (l : List Int) (v0 : Value) (A : Option Addr) (c : Nat) (w : World) (hv : JobV w w.heap.size v0 j) (hl : Ints w w.heap.size A l) (hnl : l.length ≤ 1000) :
    Calls Try.prog 51 #[v0, .slice A l.length c] w fun e w' => e = .returned (.bool (isChoice j l)) ∧ Below w.heap.size w w' := by
  have HV := Lib.hid hv
  obtain ⟨AE, cE, AL, cL, AG, cG, rfl, _, _, _, _⟩ := hv
  have HCH := Lib.hid (fun W (hW : Below w.heap.size w W) => ref05_Check j _ W (HV.out.below hW))
  have HL := Lib.hid hl
  have hI : Hid (isChoice j l = (decide (checkJob j = 0) && decide (l.length = j.Ends.length) && !(l.any fun g => decide (g < 0 ∨ (j.Grades.length : Int) ≤ g)))) := rfl
  have HAP := Lib.hid (fun q => any_pick q l)
  clear hl
  generalize checkJob j = r at *
  generalize isChoice j l = res at *
  generalize j.Ends.length = nE at *
  generalize j.Loads.length = nL at *
  generalize j.Grades.length = nG at *
  generalize hn : l.length = nl at *
  have HN := Lib.hid hn
  clear hn
  have HB := Lib.hid ((Below.refl w.heap.size w).alloc (Nat.le_refl _) (.cells #[.slice AE nE cE, .slice AL nL cL, .slice AG nG cG, .int .i64 j.Factor, .int .i64 j.Over] 36))
  have B0 := Lib.hid (Box.new w 36 #[.slice AE nE cE, .slice AL nL cL, .slice AG nG cG, .int .i64 j.Factor, .int .i64 j.Over] rfl)
  by_cases h1 : r = 0
  case neg =>
    have h1' : (r != 0) = true := by simpa using h1
    go_enter Try.func51, Try.ntmps51
    go_wp2_with fail
    refine (HCH.out _ HB.out).mono ?_
    rintro e w1 ⟨rfl, hb1⟩
    go_wp2_with fail
    go_ret
    exact ⟨ret_bool (by rw [hI.out]; simp [h1]), HB.out.trans (hb1.mono HB.out.size)⟩
  subst h1
  by_cases h2 : nl = nE
  case neg =>
    have h2' : ((nl : Int) != (nE : Int)) = true := by simp; omega
    have h2'' : (nl != nE) = true := by simpa using h2
    go_enter Try.func51, Try.ntmps51
    go_wp2_with fail
    refine (HCH.out _ HB.out).mono ?_
    rintro e w1 ⟨rfl, hb1⟩
    obtain ⟨q0, _, _, _, _⟩ := job_box (B0.out.under hb1)
    go_wp2_with fail
    go_ret
    exact ⟨ret_bool (by rw [hI.out]; simp [h2]), HB.out.trans (hb1.mono HB.out.size)⟩
  subst h2
  have h2' : ((nl : Int) != (nl : Int)) = false := by simp
  have hI2 : Hid (res = !(l.any fun g => decide (g < 0 ∨ (nG : Int) ≤ g))) := by unfold Hid; rw [hI.out]; simp
  clear hI
  go_enter Try.func51, Try.ntmps51
  go_wp2_with fail
  refine (HCH.out _ HB.out).mono ?_
  rintro e w1 ⟨rfl, hb1⟩
  have B1 := Lib.hid (B0.out.under hb1)
  have HB1 := Lib.hid (HB.out.trans (hb1.mono HB.out.size))
  obtain ⟨q0, _, _, _, _⟩ := job_box B1.out
  clear hb1
  go_wp2_with fail
  clear q0 h2'
  go_loopw [5] (fun s5 wr => ∃ k : Nat, k ≤ nl ∧ s5 = .int .i64 k ∧ Hid ((l.drop k).any (fun g => decide (g < 0 ∨ (nG : Int) ≤ g)) = l.any (fun g => decide (g < 0 ∨ (nG : Int) ≤ g))) ∧ Hid (Below w1.heap.size w1 wr)) (fun s5 _ => nl - (intOf s5).toNat)
  case atStart => exact ⟨0, Nat.zero_le _, rfl, rfl, Below.refl _ _⟩
  case round =>
    obtain ⟨k, hk, rfl, hr, BW⟩ := hrel
    have BB := Lib.hid (HB1.out.trans (BW.out.mono HB1.out.size))
    by_cases hlt : k < nl
    · obtain ⟨b, off, rfl, hb, hc⟩ := HL.out (by rw [HN.out]; omega)
      have e0 := oldCell BB.out hb (hc k (by rw [HN.out]; exact hlt))
      obtain ⟨_, _, q2, _, _⟩ := job_box (B1.out.under BW.out)
      have hs := Lib.hid (HAP.out (fun g => decide (g < 0 ∨ (nG : Int) ≤ g)) k hlt)
      clear hc
      generalize pick l k = z at *
      by_cases g1 : z < 0
      · have d1 : decide (z < 0) = true := decide_eq_true g1
        have hf : Hid (res = false) := by unfold Hid; rw [hI2.out, ← hr.out, hs.out, decide_eq_true (by omega)]; rfl
        go_wp2_with fail
        go_quiet (fail)
        go_wp2_with fail
        go_ret
        exact ⟨ret_bool hf.out.symm, belowDrewN BB.out _⟩
      have d1 : decide (z < 0) = false := decide_eq_false g1
      by_cases g2 : (nG : Int) ≤ z
      · have d2 : decide ((nG : Int) ≤ z) = true := decide_eq_true g2
        have hf : Hid (res = false) := by unfold Hid; rw [hI2.out, ← hr.out, hs.out, decide_eq_true (by omega)]; rfl
        go_wp2_with fail
        go_quiet (fail)
        go_wp2_with fail
        go_ret
        exact ⟨ret_bool hf.out.symm, belowDrewN BB.out _⟩
      have d2 : decide ((nG : Int) ≤ z) = false := decide_eq_false g2
      have hnx : Hid ((l.drop (k + 1)).any (fun g => decide (g < 0 ∨ (nG : Int) ≤ g)) = l.any (fun g => decide (g < 0 ∨ (nG : Int) ≤ g))) := by unfold Hid; rw [← hr.out, hs.out, decide_eq_false (by omega), Bool.false_or]
      go_wp2_with fail
      go_quiet (fail)
      go_wp2_with fail
      go_roundw
      case rel => exact ⟨k + 1, hlt, by go_num, hnx, belowDrewN BW.out _⟩
      case measure => simp [intOf]; omega
    · go_wp2_with fail
      go_ret
      refine ⟨ret_bool ?_, BB.out⟩
      rw [hI2.out, ← hr.out, List.drop_eq_nil_of_le (by rw [HN.out]; omega)]
      rfl

end Go.Proofs.Ytannipfohicpmaa
