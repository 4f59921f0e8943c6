/- Walks of the reference of layer 5: which jobs are valid. -/
import Derived.Test.YtannipfohicpmaaRefLoads
namespace Go.Proofs.Ytannipfohicpmaa
open Go.RowKit Go.Shelf Mpl

theorem any_pick (q : Int → Bool) (l : List Int) (k : Nat) (h : k < l.length) : (l.drop k).any q = (q (pick l k) || (l.drop (k + 1)).any q) := by
  rw [List.drop_eq_getElem_cons h, List.any_cons, pick_get l k h]

set_option maxHeartbeats 2000000 in
theorem ref05_ends (l : List Int) (A : Option Addr) (c : Nat) (w : World) (hl : Ints w w.heap.size A l) :
    Calls Try.prog 76 #[.slice A l.length c] w fun e w' => e = .returned (.int .i64 (checkEnds l)) ∧ Below w.heap.size w w' := by
  by_cases h0 : l.length = 0
  · have hs : Hid (checkEnds l = 6) := by simp [checkEnds, h0, Hid]
    have hz : (((0 : Nat) : Int) == 0) = true := by simp
    rw [h0]
    clear hl h0
    go_enter Try.func76, Try.ntmps76
    go_wp2_with fail
    go_ret
    exact ⟨ret_int hs.out.symm, Below.refl _ _⟩
  have hz : ((l.length : Int) == 0) = false := beq_eq_false_iff_ne.2 (by omega)
  by_cases h5 : 5 < l.length
  · have hs : Hid (checkEnds l = 8) := by simp [checkEnds, h0, h5, Hid]
    have hz2 : decide ((5 : Int) < (l.length : Int)) = true := decide_eq_true (by omega)
    clear hl h0
    generalize l.length = n at *
    go_enter Try.func76, Try.ntmps76
    go_wp2_with fail
    go_ret
    exact ⟨ret_int hs.out.symm, Below.refl _ _⟩
  have hz2 : decide ((5 : Int) < (l.length : Int)) = false := decide_eq_false (by omega)
  obtain ⟨b, off, rfl, hb, hc⟩ := hl (by omega)
  have HC := Lib.hid hc
  have hres : Hid (checkEnds l = if l.any (fun z => !within z 1 1048576) then 2 else if ascends (pick l 0) (l.drop 1) then 0 else 11) := by
    unfold Hid checkEnds
    rw [if_neg h0, if_neg h5]
    cases l with
    | nil => simp at h0
    | cons a l => simp [pick]
  have HAP := Lib.hid (fun q => any_pick q l)
  have HAS := Lib.hid (asc_step l)
  clear hl hc
  generalize checkEnds l = res at *
  generalize hn : l.length = n at *
  have HN := Lib.hid hn
  have hn0 : 0 < n := by omega
  clear hn h0
  go_enter Try.func76, Try.ntmps76
  go_wp2_with fail
  go_loop [3] (fun s3 => ∃ k : Nat, k ≤ n ∧ s3 = .int .i64 k ∧ Hid ((l.drop k).any (fun z => !within z 1 1048576) = l.any (fun z => !within z 1 1048576))) (fun s3 => n - (intOf s3).toNat)
  case atStart => exact ⟨0, Nat.zero_le _, rfl, rfl⟩
  case round =>
    obtain ⟨k, hk, rfl, hr⟩ := hrel
    by_cases hlt : k < n
    · have e0 := HC.out k hlt
      have hs := Lib.hid (HAP.out (fun z => !within z 1 1048576) k hlt)
      have hw : Hid (within (pick l k) 1 1048576 = decide (1 ≤ pick l k ∧ pick l k ≤ 1048576)) := rfl
      generalize pick l k = z at *
      by_cases g1 : z < 1
      · have d1 : decide (z < 1) = true := decide_eq_true g1
        have hf : Hid (res = 2) := by
          unfold Hid
          rw [hres.out, ← hr.out, hs.out, hw.out, decide_eq_false (by omega)]
          simp
        go_wp2_with fail
        go_ret
        exact ⟨ret_int hf.out.symm, Below.refl _ _⟩
      have d1 : decide (z < 1) = false := decide_eq_false g1
      by_cases g2 : 1048576 < z
      · have d2 : decide (1048576 < z) = true := decide_eq_true g2
        have hf : Hid (res = 2) := by
          unfold Hid
          rw [hres.out, ← hr.out, hs.out, hw.out, decide_eq_false (by omega)]
          simp
        go_wp2_with fail
        go_ret
        exact ⟨ret_int hf.out.symm, Below.refl _ _⟩
      have d2 : decide (1048576 < z) = false := decide_eq_false g2
      have hnx : Hid ((l.drop (k + 1)).any (fun z => !within z 1 1048576) = l.any (fun z => !within z 1 1048576)) := by
        unfold Hid
        rw [← hr.out, hs.out, hw.out, decide_eq_true (by omega)]
        simp
      go_wp2_with fail
      go_round
      case rel => exact ⟨k + 1, hlt, by go_num, hnx⟩
      case measure => simp [intOf]; omega
    · have hany : l.any (fun z => !within z 1 1048576) = false := by
        rw [← hr.out, List.drop_eq_nil_of_le (by rw [HN.out]; omega)]
        rfl
      have hres2 : Hid (res = if ascends (pick l 0) (l.drop 1) then 0 else 11) := by unfold Hid; rw [hres.out, hany]; rfl
      clear hany
      go_wp2_with fail
      clear hk hr hlt
      go_loopw [4] (fun s4 wr => ∃ k : Nat, k + 1 ≤ n ∧ s4 = .int .i64 ((k + 1 : Nat) : Int) ∧ Hid ((if ascends (pick l k) (l.drop (k + 1)) then (0 : Int) else 11) = res) ∧ Hid (Below w.heap.size w wr)) (fun s4 _ => n - (intOf s4).toNat)
      case atStart => exact ⟨0, by omega, rfl, hres2.out.symm, Below.refl _ _⟩
      case round =>
        obtain ⟨k, hk, rfl, hr, BW⟩ := hrel
        by_cases hlt : k + 1 < n
        · have e0 := oldCell BW.out hb (HC.out k (by omega))
          have e1 := oldCell BW.out hb (HC.out (k + 1) (by omega))
          have hs := Lib.hid (HAS.out k hlt)
          have hbw : b < wr.heap.size := by have := BW.out.size; omega
          by_cases g1 : pick l (k + 1) ≤ pick l k
          · have d1 : decide (pick l (k + 1) ≤ pick l k) = true := decide_eq_true g1
            have hf : Hid (res = 11) := by unfold Hid; rw [← hr.out, hs.out, decide_eq_false (by omega)]; rfl
            go_wp2_with fail
            go_region
            go_wp2_with fail
            go_ret
            exact ⟨ret_int hf.out.symm, (by repeat (first | exact Below.refl _ _ | assumption | refine Below.setCell ?_ (by first | (simp; done) | (simp; omega)) _ | refine belowDrewN ?_ _ | refine Below.drew ?_ | refine Below.alloc ?_ (by first | (simp; done) | (simp; omega)) _))⟩
          · have d1 : decide (pick l (k + 1) ≤ pick l k) = false := decide_eq_false g1
            have hf : Hid ((if ascends (pick l (k + 1)) (l.drop (k + 1 + 1)) then (0 : Int) else 11) = res) := by unfold Hid; rw [← hr.out, hs.out, decide_eq_true (by omega), Bool.true_and]
            go_wp2_with fail
            go_region
            go_wp2_with fail
            go_roundw
            case rel => exact ⟨k + 1, by omega, by go_num, hf, BW.out.drew⟩
            case measure => simp [intOf]; omega
        · go_wp2_with fail
          go_ret
          refine ⟨ret_int ?_, BW.out⟩
          rw [← hr.out, List.drop_eq_nil_of_le (by rw [HN.out]; omega)]
          rfl

theorem grade_iff (g : Grade) : fairGrade g = (decide (0 ≤ g.Burst) && decide (g.Burst ≤ 68719476736) && decide (0 ≤ g.Collapse) && decide (g.Collapse ≤ 68719476736) && decide (1 ≤ g.Pull) && decide (g.Pull ≤ 1099511627776) && decide (0 ≤ g.Weight) && decide (g.Weight ≤ 1048576) && decide (0 ≤ g.Cost) && decide (g.Cost ≤ 1048576)) := by
  simp only [fairGrade, within, Bool.decide_and, Bool.and_assoc]

set_option maxHeartbeats 2000000 in
theorem ref05_grade (g : Grade) (w : World) :
    Calls Try.prog 78 #[gradeV g] w fun e w' => e = .returned (.bool (fairGrade g)) ∧ Below w.heap.size w w' := by
  rw [grade_iff]
  unfold gradeV
  generalize g.Burst = a at *
  generalize g.Collapse = b at *
  generalize g.Pull = c at *
  generalize g.Weight = d at *
  generalize g.Cost = e at *
  cases h1 : decide (0 ≤ a)
  · go_enter Try.func78, Try.ntmps78
    go_wp2_with fail
    go_ret
    exact ⟨rfl, (by repeat (first | exact Below.refl _ _ | assumption | refine Below.setCell ?_ (by first | (simp; done) | (simp; omega)) _ | refine belowDrewN ?_ _ | refine Below.drew ?_ | refine Below.alloc ?_ (by first | (simp; done) | (simp; omega)) _))⟩
  cases h2 : decide (a ≤ 68719476736)
  · go_enter Try.func78, Try.ntmps78
    go_wp2_with fail
    go_ret
    exact ⟨rfl, (by repeat (first | exact Below.refl _ _ | assumption | refine Below.setCell ?_ (by first | (simp; done) | (simp; omega)) _ | refine belowDrewN ?_ _ | refine Below.drew ?_ | refine Below.alloc ?_ (by first | (simp; done) | (simp; omega)) _))⟩
  cases h3 : decide (0 ≤ b)
  · go_enter Try.func78, Try.ntmps78
    go_wp2_with fail
    go_ret
    exact ⟨rfl, (by repeat (first | exact Below.refl _ _ | assumption | refine Below.setCell ?_ (by first | (simp; done) | (simp; omega)) _ | refine belowDrewN ?_ _ | refine Below.drew ?_ | refine Below.alloc ?_ (by first | (simp; done) | (simp; omega)) _))⟩
  cases h4 : decide (b ≤ 68719476736)
  · go_enter Try.func78, Try.ntmps78
    go_wp2_with fail
    go_ret
    exact ⟨rfl, (by repeat (first | exact Below.refl _ _ | assumption | refine Below.setCell ?_ (by first | (simp; done) | (simp; omega)) _ | refine belowDrewN ?_ _ | refine Below.drew ?_ | refine Below.alloc ?_ (by first | (simp; done) | (simp; omega)) _))⟩
  cases h5 : decide (1 ≤ c)
  · go_enter Try.func78, Try.ntmps78
    go_wp2_with fail
    go_ret
    exact ⟨rfl, (by repeat (first | exact Below.refl _ _ | assumption | refine Below.setCell ?_ (by first | (simp; done) | (simp; omega)) _ | refine belowDrewN ?_ _ | refine Below.drew ?_ | refine Below.alloc ?_ (by first | (simp; done) | (simp; omega)) _))⟩
  cases h6 : decide (c ≤ 1099511627776)
  · go_enter Try.func78, Try.ntmps78
    go_wp2_with fail
    go_ret
    exact ⟨rfl, (by repeat (first | exact Below.refl _ _ | assumption | refine Below.setCell ?_ (by first | (simp; done) | (simp; omega)) _ | refine belowDrewN ?_ _ | refine Below.drew ?_ | refine Below.alloc ?_ (by first | (simp; done) | (simp; omega)) _))⟩
  cases h7 : decide (0 ≤ d)
  · go_enter Try.func78, Try.ntmps78
    go_wp2_with fail
    go_ret
    exact ⟨rfl, (by repeat (first | exact Below.refl _ _ | assumption | refine Below.setCell ?_ (by first | (simp; done) | (simp; omega)) _ | refine belowDrewN ?_ _ | refine Below.drew ?_ | refine Below.alloc ?_ (by first | (simp; done) | (simp; omega)) _))⟩
  cases h8 : decide (d ≤ 1048576)
  · go_enter Try.func78, Try.ntmps78
    go_wp2_with fail
    go_ret
    exact ⟨rfl, (by repeat (first | exact Below.refl _ _ | assumption | refine Below.setCell ?_ (by first | (simp; done) | (simp; omega)) _ | refine belowDrewN ?_ _ | refine Below.drew ?_ | refine Below.alloc ?_ (by first | (simp; done) | (simp; omega)) _))⟩
  cases h9 : decide (0 ≤ e)
  · go_enter Try.func78, Try.ntmps78
    go_wp2_with fail
    go_ret
    exact ⟨rfl, (by repeat (first | exact Below.refl _ _ | assumption | refine Below.setCell ?_ (by first | (simp; done) | (simp; omega)) _ | refine belowDrewN ?_ _ | refine Below.drew ?_ | refine Below.alloc ?_ (by first | (simp; done) | (simp; omega)) _))⟩
  cases h10 : decide (e ≤ 1048576)
  · go_enter Try.func78, Try.ntmps78
    go_wp2_with fail
    go_ret
    exact ⟨rfl, (by repeat (first | exact Below.refl _ _ | assumption | refine Below.setCell ?_ (by first | (simp; done) | (simp; omega)) _ | refine belowDrewN ?_ _ | refine Below.drew ?_ | refine Below.alloc ?_ (by first | (simp; done) | (simp; omega)) _))⟩
  · go_enter Try.func78, Try.ntmps78
    go_wp2_with fail
    go_ret
    exact ⟨rfl, (by repeat (first | exact Below.refl _ _ | assumption | refine Below.setCell ?_ (by first | (simp; done) | (simp; omega)) _ | refine belowDrewN ?_ _ | refine Below.drew ?_ | refine Below.alloc ?_ (by first | (simp; done) | (simp; omega)) _))⟩

theorem any_grade (q : Grade → Bool) (l : List Grade) (k : Nat) (h : k < l.length) : (l.drop k).any q = (q (gd l k) || (l.drop (k + 1)).any q) := by
  rw [List.drop_eq_getElem_cons h, List.any_cons]
  simp [gd, h]

end Go.Proofs.Ytannipfohicpmaa
