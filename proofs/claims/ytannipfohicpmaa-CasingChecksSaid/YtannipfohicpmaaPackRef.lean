/- Several texts in one: Ref02, Ref02b, Ref02c, Ref02d, RefLoads, RefCheck, RefCheck2, RefBears, RefExcess, RefWhy, RefCost, RefPulls, RefBears2, Small, Same. -/
import Derived.Test.YtannipfohicpmaaProven
import Derived.Deep.QuietTactic
import Derived.BigQuiet
import Derived.Test.YtannipfohicpmaaStill
import Derived.RegionTactic
import Derived.BigRegion
import Derived.Deep.RegionHeld3
import Derived.Test.YtannipfohicpmaaAppend
import Derived.Test.YtannipfohicpmaaWhy
import Derived.Deep.DeepCutAuto
import Derived.Test.YtannipfohicpmaaKit
import Derived.Test.YtannipfohicpmaaLawPulls
import Derived.Test.YtannipfohicpmaaBears
import Derived.Test.YtannipfohicpmaaChoice
/- Walks of the reference of layer 2: lines are checked. -/
namespace Go.Proofs.Ytannipfohicpmaa
open Go.RowKit Go.Shelf Mpl

def lastOf (ks : List Knot) (k : Nat) : Int := if k = 0 then -1 else (kn ks (k - 1)).At

set_option maxHeartbeats 4000000 in
set_option maxRecDepth 100000 in
theorem ref02_CheckLine_loop (ks : List Knot) (b off : Nat) (c : Nat) (at_ v : Int) (w : World) (hb : b < w.heap.size)
    (hk : ∀ i, i < ks.length → w.cell? ⟨b, off + i * 2, none⟩ = some (.int .i64 (kn ks i).At) ∧ w.cell? ⟨b, off + i * 2 + 1, none⟩ = some (.int .i64 (kn ks i).V))
    (h0 : 0 < ks.length) (h24 : ks.length ≤ 24) (h1 : 0 ≤ at_) (h2 : at_ ≤ 1099511627776) (h3 : 0 ≤ v) (h4 : v ≤ 68719476736) :
    Calls Try.prog 101 #[.agg #[.slice (some ⟨b, off, none⟩) ks.length c], .int .i64 at_, .int .i64 v] w fun e w' => e = .returned (.int .i64 (checkKnots at_ v (-1) ks)) ∧ Below w.heap.size w w' := by
  have HK := Lib.hid hk
  clear hk
  generalize hn : ks.length = n at *
  have HN := Lib.hid hn
  clear hn
  generalize hres : checkKnots at_ v (-1) ks = res at *
  have HR := Lib.hid hres
  clear hres
  have hz : ((n : Int) == 0) = false := by simp; omega
  have hz2 : decide ((24 : Int) < (n : Int)) = false := by simp; omega
  have d1 : decide (at_ < 0) = false := decide_eq_false (by omega)
  have d2 : decide (1099511627776 < at_) = false := decide_eq_false (by omega)
  have d3 : decide (v < 0) = false := decide_eq_false (by omega)
  have d4 : decide (68719476736 < v) = false := decide_eq_false (by omega)
  obtain ⟨w0, hw0⟩ : ∃ w0, w.alloc (.cells #[.slice (some ⟨b, off, none⟩) n c] 24) = w0 := ⟨_, rfl⟩
  have b0 : Box w0 w.heap.size 24 #[.slice (some ⟨b, off, none⟩) n c] := by rw [← hw0]; exact Box.new _ _ _ rfl
  have hB0 : Below w.heap.size w w0 := by rw [← hw0]; exact (by repeat (first | exact Below.refl _ _ | assumption | refine Below.setCell ?_ (by first | (simp; done) | (simp; omega)) _ | refine belowDrewN ?_ _ | refine Below.drew ?_ | refine Below.alloc ?_ (by first | (simp; done) | (simp; omega)) _))
  have HW0 := Lib.hid hw0
  clear hw0
  go_enter Try.func101, Try.ntmps101
  go_wp2_with fail
  rw [HW0.out]
  go_loopw [7] (fun i wr => ∃ (k : Nat), k ≤ n ∧ i = .int .i64 k ∧ Hid (checkKnots at_ v (lastOf ks k) (ks.drop k) = res) ∧ Hid (Below w0.heap.size w0 wr)) (fun i _ => n - (intOf i).toNat)
  case atStart => exact ⟨0, Nat.zero_le _, rfl, HR, Below.refl _ _⟩
  case round =>
    obtain ⟨k, hk, rfl, hr, BW⟩ := hrel
    have hbl := Lib.hid (hB0.trans (BW.out.mono hB0.size))
    have hsz := hbl.out.size
    have hlt0 := b0.lt
    have hsz0 := BW.out.size
    have hlw : w.heap.size < wr.heap.size := by omega
    have hbw : b < wr.heap.size := by omega
    have q0 := (b0.under BW.out).cell 0
    simp only [List.getElem?_toArray, List.getElem?_cons_zero] at q0
    by_cases hlt : k < n
    · obtain ⟨c0, c1⟩ := HK.out k hlt
      have e0 := oldCell hbl.out hb c0
      have e1 := oldCell hbl.out hb c1
      clear c0 c1
      have hst := Lib.hid (checkKnots_step at_ v (lastOf ks k) ks k (by rw [HN.out]; exact hlt))
      have hlast : Hid (lastOf ks (k + 1) = (kn ks k).At) := by unfold Hid; simp [lastOf]
      have hw1 : Hid (within (kn ks k).At 0 at_ = decide (0 ≤ (kn ks k).At ∧ (kn ks k).At ≤ at_)) := rfl
      have hw2 : Hid (within (kn ks k).V 0 v = decide (0 ≤ (kn ks k).V ∧ (kn ks k).V ≤ v)) := rfl
      have hl0 : Hid (k = 0 → lastOf ks k = -1) := fun h => by simp [lastOf, h]
      have hl1 : Hid (0 < k → lastOf ks k = (kn ks (k - 1)).At) := fun h => by simp [lastOf, show k ≠ 0 by omega]
      generalize lastOf ks k = la at *
      generalize (kn ks k).At = ka at *
      generalize (kn ks k).V = kv at *
      by_cases g : 0 ≤ ka ∧ ka ≤ at_ ∧ 0 ≤ kv ∧ kv ≤ v
      case neg =>
        have hf : Hid (res = 2) := by
          unfold Hid
          rw [← hr.out, hst.out, if_neg]
          rw [hw1.out, hw2.out]
          simp
          omega
        have gc : ka < 0 ∨ (0 ≤ ka ∧ at_ < ka) ∨ (0 ≤ ka ∧ ka ≤ at_ ∧ kv < 0) ∨ (0 ≤ ka ∧ ka ≤ at_ ∧ 0 ≤ kv ∧ v < kv) := by omega
        clear g
        rcases gc with g1 | ⟨g1, g2⟩ | ⟨g1, g2, g3⟩ | ⟨g1, g2, g3, g4⟩
        · have f1 : decide (ka < 0) = true := decide_eq_true g1
          go_wp2_with fail
          go_ret
          exact ⟨ret_int hf.out.symm, hbl.out.alloc hsz _⟩
        · have f1 : decide (ka < 0) = false := decide_eq_false (by omega)
          have f2 : decide (at_ < ka) = true := decide_eq_true g2
          go_wp2_with fail
          go_ret
          exact ⟨ret_int hf.out.symm, hbl.out.alloc hsz _⟩
        · have f1 : decide (ka < 0) = false := decide_eq_false (by omega)
          have f2 : decide (at_ < ka) = false := decide_eq_false (by omega)
          have f3 : decide (kv < 0) = true := decide_eq_true g3
          go_wp2_with fail
          go_ret
          exact ⟨ret_int hf.out.symm, hbl.out.alloc hsz _⟩
        · have f1 : decide (ka < 0) = false := decide_eq_false (by omega)
          have f2 : decide (at_ < ka) = false := decide_eq_false (by omega)
          have f3 : decide (kv < 0) = false := decide_eq_false (by omega)
          have f4 : decide (v < kv) = true := decide_eq_true g4
          go_wp2_with fail
          go_ret
          exact ⟨ret_int hf.out.symm, hbl.out.alloc hsz _⟩
      obtain ⟨g1, g2, g3, g4⟩ := g
      have f1 : decide (ka < 0) = false := decide_eq_false (by omega)
      have f2 : decide (at_ < ka) = false := decide_eq_false (by omega)
      have f3 : decide (kv < 0) = false := decide_eq_false (by omega)
      have f4 : decide (v < kv) = false := decide_eq_false (by omega)
      have hgo : Hid (res = if ka ≤ la then 11 else checkKnots at_ v ka (ks.drop (k + 1))) := by
        unfold Hid
        rw [← hr.out, hst.out, hw1.out, hw2.out, if_pos (by simp [g1, g2, g3, g4])]
      by_cases hk0 : k = 0
      · have hla := hl0.out hk0
        have hgo2 : Hid (checkKnots at_ v ka (ks.drop (k + 1)) = res) := by unfold Hid; rw [hgo.out, if_neg (by omega)]
        subst hk0
        clear hla
        simp only [Nat.zero_mul, Nat.add_zero] at e0 e1
        go_wp2_with fail
        go_quiet (fail)
        go_wp2_with fail
        go_roundw
        case rel => exact ⟨0 + 1, hlt, by go_num, by unfold Hid; rw [hlast.out]; exact hgo2.out, belowDrewN (BW.out.alloc hsz0 _) _⟩
        case measure => simp [intOf]; omega
      · obtain ⟨c2, _⟩ := HK.out (k - 1) (by omega)
        have e2 := oldCell hbl.out hb c2
        rw [← hl1.out (by omega)] at e2
        clear c2
        have hkp : 0 < k := by omega
        have hkp' : decide ((0 : Int) < (k : Int)) = true := decide_eq_true (by omega)
        clear hk0
        by_cases g5 : ka ≤ la
        · have f5 : decide (ka ≤ la) = true := decide_eq_true g5
          have hf : Hid (res = 11) := by unfold Hid; rw [hgo.out, if_pos g5]
          go_wp2_with fail
          go_quiet (fail)
          go_wp2_with fail
          go_ret
          exact ⟨ret_int hf.out.symm, belowDrewN (hbl.out.alloc hsz _) _⟩
        · have f5 : decide (ka ≤ la) = false := decide_eq_false g5
          have hgo2 : Hid (checkKnots at_ v ka (ks.drop (k + 1)) = res) := by unfold Hid; rw [hgo.out, if_neg g5]
          go_wp2_with fail
          go_quiet (fail)
          go_wp2_with fail
          go_roundw
          case rel => exact ⟨k + 1, hlt, by go_num, by unfold Hid; rw [hlast.out]; exact hgo2.out, belowDrewN (BW.out.alloc hsz0 _) _⟩
          case measure => simp [intOf]; omega
    · go_wp2_with fail
      go_ret
      exact ⟨by rw [← hr.out, List.drop_eq_nil_of_le (by rw [HN.out]; omega)]; rfl, hbl.out⟩

end Go.Proofs.Ytannipfohicpmaa

/- Walks of the reference of layer 2: the value of a line at a place. -/
namespace Go.Proofs.Ytannipfohicpmaa
open Go.RowKit Go.Shelf Mpl

set_option maxHeartbeats 1000000 in
theorem ref02_CheckLine (v0 : Value) (ks : List Knot) (at_ v : Int) (w : World) (hv : LineV w w.heap.size v0 ks) :
    Calls Try.prog 101 #[v0, .int .i64 at_, .int .i64 v] w fun e w' => e = .returned (.int .i64 (checkLine ks at_ v)) ∧ Below w.heap.size w w' := by
  obtain ⟨A, c, rfl, hk⟩ := hv
  by_cases hr : 0 ≤ at_ ∧ at_ ≤ 1099511627776 ∧ 0 ≤ v ∧ v ≤ 68719476736
  case neg =>
    have hs : Hid (checkLine ks at_ v = 2) := by unfold Hid checkLine; rw [if_pos]; simp [within]; omega
    have hc : at_ < 0 ∨ (0 ≤ at_ ∧ 1099511627776 < at_) ∨ (0 ≤ at_ ∧ at_ ≤ 1099511627776 ∧ v < 0) ∨ (0 ≤ at_ ∧ at_ ≤ 1099511627776 ∧ 0 ≤ v ∧ 68719476736 < v) := by omega
    clear hk hr
    generalize ks.length = n at *
    rcases hc with h1 | ⟨h1, h2⟩ | ⟨h1, h2, h3⟩ | ⟨h1, h2, h3, h4⟩
    · have d1 : decide (at_ < 0) = true := decide_eq_true (by omega)
      go_enter Try.func101, Try.ntmps101
      go_wp2_with fail
      go_ret
      exact ⟨ret_int hs.out.symm, (by repeat (first | exact Below.refl _ _ | assumption | refine Below.setCell ?_ (by first | (simp; done) | (simp; omega)) _ | refine belowDrewN ?_ _ | refine Below.drew ?_ | refine Below.alloc ?_ (by first | (simp; done) | (simp; omega)) _))⟩
    · have d1 : decide (at_ < 0) = false := decide_eq_false (by omega)
      have d2 : decide (1099511627776 < at_) = true := decide_eq_true (by omega)
      go_enter Try.func101, Try.ntmps101
      go_wp2_with fail
      go_ret
      exact ⟨ret_int hs.out.symm, (by repeat (first | exact Below.refl _ _ | assumption | refine Below.setCell ?_ (by first | (simp; done) | (simp; omega)) _ | refine belowDrewN ?_ _ | refine Below.drew ?_ | refine Below.alloc ?_ (by first | (simp; done) | (simp; omega)) _))⟩
    · have d1 : decide (at_ < 0) = false := decide_eq_false (by omega)
      have d2 : decide (1099511627776 < at_) = false := decide_eq_false (by omega)
      have d3 : decide (v < 0) = true := decide_eq_true (by omega)
      go_enter Try.func101, Try.ntmps101
      go_wp2_with fail
      go_ret
      exact ⟨ret_int hs.out.symm, (by repeat (first | exact Below.refl _ _ | assumption | refine Below.setCell ?_ (by first | (simp; done) | (simp; omega)) _ | refine belowDrewN ?_ _ | refine Below.drew ?_ | refine Below.alloc ?_ (by first | (simp; done) | (simp; omega)) _))⟩
    · have d1 : decide (at_ < 0) = false := decide_eq_false (by omega)
      have d2 : decide (1099511627776 < at_) = false := decide_eq_false (by omega)
      have d3 : decide (v < 0) = false := decide_eq_false (by omega)
      have d4 : decide (68719476736 < v) = true := decide_eq_true (by omega)
      go_enter Try.func101, Try.ntmps101
      go_wp2_with fail
      go_ret
      exact ⟨ret_int hs.out.symm, (by repeat (first | exact Below.refl _ _ | assumption | refine Below.setCell ?_ (by first | (simp; done) | (simp; omega)) _ | refine belowDrewN ?_ _ | refine Below.drew ?_ | refine Below.alloc ?_ (by first | (simp; done) | (simp; omega)) _))⟩
  obtain ⟨h1, h2, h3, h4⟩ := hr
  have d1 : decide (at_ < 0) = false := decide_eq_false (by omega)
  have d2 : decide (1099511627776 < at_) = false := decide_eq_false (by omega)
  have d3 : decide (v < 0) = false := decide_eq_false (by omega)
  have d4 : decide (68719476736 < v) = false := decide_eq_false (by omega)
  have hw1 : within at_ 0 1099511627776 = true := by simp [within]; omega
  have hw2 : within v 0 68719476736 = true := by simp [within]; omega
  by_cases h0 : ks.length = 0
  · have hs : Hid (checkLine ks at_ v = 6) := by simp [checkLine, hw1, hw2, h0, Hid]
    clear hk hw1 hw2
    rw [h0]
    have hz : (((0 : Nat) : Int) == 0) = true := by simp
    clear h0
    go_enter Try.func101, Try.ntmps101
    go_wp2_with fail
    go_ret
    exact ⟨ret_int hs.out.symm, (by repeat (first | exact Below.refl _ _ | assumption | refine Below.setCell ?_ (by first | (simp; done) | (simp; omega)) _ | refine belowDrewN ?_ _ | refine Below.drew ?_ | refine Below.alloc ?_ (by first | (simp; done) | (simp; omega)) _))⟩
  by_cases h24 : 24 < ks.length
  · have hs : Hid (checkLine ks at_ v = 8) := by simp [checkLine, hw1, hw2, h0, h24, Hid]
    clear hk hw1 hw2
    have hz : ((ks.length : Int) == 0) = false := beq_eq_false_iff_ne.2 (by omega)
    have hz2 : decide ((24 : Int) < (ks.length : Int)) = true := decide_eq_true (by omega)
    clear h0
    generalize ks.length = n at *
    go_enter Try.func101, Try.ntmps101
    go_wp2_with fail
    go_ret
    exact ⟨ret_int hs.out.symm, (by repeat (first | exact Below.refl _ _ | assumption | refine Below.setCell ?_ (by first | (simp; done) | (simp; omega)) _ | refine belowDrewN ?_ _ | refine Below.drew ?_ | refine Below.alloc ?_ (by first | (simp; done) | (simp; omega)) _))⟩
  obtain ⟨b, off, rfl, hb, hc⟩ := hk.out (by omega)
  have hs : checkLine ks at_ v = checkKnots at_ v (-1) ks := by simp [checkLine, hw1, hw2, h0, h24]
  rw [hs]
  exact ref02_CheckLine_loop ks b off c at_ v w hb hc (by omega) (by omega) h1 h2 h3 h4

set_option maxHeartbeats 1000000 in
theorem ref02_right (v0 : Value) (ks : List Knot) (w : World) (hv : LineV w w.heap.size v0 ks) :
    Calls Try.prog 103 #[v0] w fun e w' => e = .returned (.bool (right ks)) ∧ Below w.heap.size w w' := by
  have HV := Lib.hid hv
  obtain ⟨A, c, rfl, _⟩ := hv
  have HC1 := Lib.hid (fun W (hW : Below w.heap.size w W) => ref02_CheckLine _ ks 1048576 68719476736 W (HV.out.below hW))
  have HC2 := Lib.hid (fun W (hW : Below w.heap.size w W) => ref02_CheckLine _ ks 1099511627776 1048576 W (HV.out.below hW))
  have hR : Hid (right ks = (decide (checkLine ks 1048576 68719476736 = 0) || decide (checkLine ks 1099511627776 1048576 = 0))) := rfl
  generalize right ks = res at *
  generalize checkLine ks 1048576 68719476736 = e1 at *
  generalize checkLine ks 1099511627776 1048576 = e2 at *
  generalize ks.length = n at *
  have B0 := Lib.hid (Box.new w 24 #[.slice A n c] rfl)
  have HB := Lib.hid ((Below.refl w.heap.size w).alloc (Nat.le_refl _) (.cells #[.slice A n c] 24))
  by_cases h1 : e1 = 0
  · have h1' : (e1 == 0) = true := by simpa using h1
    go_enter Try.func103, Try.ntmps103
    go_wp2_with fail
    refine (HC1.out _ HB.out).mono ?_
    rintro e w1 ⟨rfl, hb1⟩
    go_wp2_with fail
    go_ret
    exact ⟨ret_bool (by rw [hR.out]; simp [h1]), HB.out.trans (hb1.mono HB.out.size)⟩
  · have h1' : (e1 == 0) = false := by simpa using h1
    go_enter Try.func103, Try.ntmps103
    go_wp2_with fail
    refine (HC1.out _ HB.out).mono ?_
    rintro e w1 ⟨rfl, hb1⟩
    have hB1 := HB.out.trans (hb1.mono HB.out.size)
    have q0 := (B0.out.under hb1).cell 0
    simp only [List.getElem?_toArray, List.getElem?_cons_zero] at q0
    go_wp2_with fail
    refine (HC2.out _ hB1).mono ?_
    rintro e w2 ⟨rfl, hb2⟩
    go_wp2_with fail
    go_ret
    exact ⟨ret_bool (by rw [hR.out]; simp only [h1, decide_false, Bool.false_or]; rfl), hB1.trans (hb2.mono hB1.size)⟩

theorem ref02_floor (a b : Int) (w : World) (hb : 0 < b) (ha1 : -4611686018427387904 ≤ a) (ha2 : a ≤ 4611686018427387904) (hb2 : b ≤ 4611686018427387904) :
    Calls Try.prog 114 #[.int .i64 a, .int .i64 b] w fun e w' => e = .returned (.int .i64 (a / b)) ∧ w' = w := by
  have hz : (b == 0) = false := beq_eq_false_iff_ne.2 (by omega)
  have hf := Lib.hid (floor_eq a b hb)
  have hd1 : -4611686018427387904 ≤ a / b := Int.le_ediv_of_mul_le hb (by have := Int.mul_le_mul_of_nonneg_left (show (1 : Int) ≤ b by omega) (show (0 : Int) ≤ 4611686018427387904 by omega); omega)
  by_cases hm : a.tmod b < 0
  · have hm' : decide (a.tmod b < 0) = true := decide_eq_true hm
    go_enter Try.func114, Try.ntmps114
    go_wp2
    go_ret
    have := hf.out
    rw [if_pos hm] at this
    refine ⟨ret_int ?_, rfl⟩
    rw [this]
    refine IntWalk.wrap64_in _ ⟨by omega, ?_⟩
    have h2 : a / b ≤ 4611686018427387904 / b := Int.ediv_le_ediv hb ha2
    have h3 : (4611686018427387904 : Int) / b ≤ 4611686018427387904 := Int.ediv_le_self _ (by omega)
    omega
  · go_enter Try.func114, Try.ntmps114
    go_wp2
    go_ret
    have := hf.out
    rw [if_neg (by omega)] at this
    exact ⟨ret_int this.symm, rfl⟩

end Go.Proofs.Ytannipfohicpmaa

/- Walks of the reference of layer 2: the value of a line at a place. -/
namespace Go.Proofs.Ytannipfohicpmaa
open Go.RowKit Go.Shelf Mpl

set_option maxHeartbeats 8000000 in
set_option maxRecDepth 100000 in
theorem ref02_value_walk (ks : List Knot) (b off c n m : Nat) (x A0 A1 B0 B1 : Int) (w : World) (hb : b < w.heap.size) (hn : n ≤ 24) (hm0 : 0 < m) (hmn : m < n)
    (hk : ∀ i, i < n → w.cell? ⟨b, off + i * 2, none⟩ = some (.int .i64 (kn ks i).At) ∧ w.cell? ⟨b, off + i * 2 + 1, none⟩ = some (.int .i64 (kn ks i).V))
    (hf : (kn ks 0).At < x) (hl : x < (kn ks (n - 1)).At) (hlt : ∀ i, i < m → (kn ks i).At < x) (hge : x ≤ (kn ks m).At)
    (eA : kn ks (m - 1) = ⟨A0, A1⟩) (eB : kn ks m = ⟨B0, B1⟩)
    (h1 : A0 < B0) (h2 : -4611686018427387904 ≤ (B1 - A1) * (x - A0)) (h3 : (B1 - A1) * (x - A0) ≤ 4611686018427387904) (h4 : 0 ≤ A1) (h5 : A1 ≤ 68719476736) (h6 : 0 ≤ B1) (h7 : B1 ≤ 68719476736) (h8 : 0 ≤ A0) (h9 : B0 ≤ 1099511627776) (h10 : A0 < x) (h11 : x ≤ B0) :
    Calls Try.prog 104 #[.agg #[.slice (some ⟨b, off, none⟩) n c], .int .i64 x] w fun e w' => e = .returned (.agg #[.int .i64 (A1 + (B1 - A1) * (x - A0) / (B0 - A0)), .int .i64 (A1 - (-((B1 - A1) * (x - A0))) / (B0 - A0))]) ∧ Below w.heap.size w w' := by
  have HK := Lib.hid hk
  have HLT := Lib.hid hlt
  have HGE := Lib.hid hge
  obtain ⟨a0, a1⟩ := hk 0 (by omega)
  obtain ⟨l0, l1⟩ := hk (n - 1) (by omega)
  obtain ⟨p0, p1⟩ := hk (m - 1) (by omega)
  obtain ⟨r0, r1⟩ := hk m (by omega)
  rw [eA] at p0 p1
  rw [eB] at r0 r1
  dsimp only at p0 p1 r0 r1
  simp only [Nat.zero_mul, Nat.add_zero] at a0 a1
  clear hk hlt hge eA eB
  have hroom := part_room (B0 - A0) (B1 - A1) (x - A0) (by omega) (by omega) (by omega) (by omega)
  obtain ⟨hr1, hr2⟩ := hroom
  have hq1 : -68719476736 ≤ (B1 - A1) * (x - A0) / (B0 - A0) := Int.le_ediv_of_mul_le (by omega) hr1
  have hq2 : (B1 - A1) * (x - A0) / (B0 - A0) ≤ 68719476736 := Int.ediv_le_of_le_mul (by omega) hr2
  have hq3 : -68719476736 ≤ (-((B1 - A1) * (x - A0))) / (B0 - A0) := Int.le_ediv_of_mul_le (by omega) (by omega)
  have hq4 : (-((B1 - A1) * (x - A0))) / (B0 - A0) ≤ 68719476736 := Int.ediv_le_of_le_mul (by omega) (by omega)
  clear hr1 hr2
  have HALL := Lib.hid (show (A0 < B0 ∧ (-4611686018427387904 ≤ (B1 - A1) * (x - A0)) ∧ (B1 - A1) * (x - A0) ≤ 4611686018427387904) ∧ (0 ≤ A1 ∧ A1 ≤ 68719476736 ∧ 0 ≤ B1 ∧ B1 ≤ 68719476736 ∧ 0 ≤ A0 ∧ B0 ≤ 1099511627776 ∧ A0 < x ∧ x ≤ B0) ∧ (-68719476736 ≤ (B1 - A1) * (x - A0) / (B0 - A0) ∧ (B1 - A1) * (x - A0) / (B0 - A0) ≤ 68719476736 ∧ -68719476736 ≤ (-((B1 - A1) * (x - A0))) / (B0 - A0) ∧ (-((B1 - A1) * (x - A0))) / (B0 - A0) ≤ 68719476736) from ⟨⟨h1, h2, h3⟩, ⟨h4, h5, h6, h7, h8, h9, h10, h11⟩, hq1, hq2, hq3, hq4⟩)
  clear h1 h2 h3 h4 h5 h6 h7 h8 h9 h10 h11 hq1 hq2 hq3 hq4
  obtain ⟨wv, hwv⟩ : ∃ wv, ((w.alloc (.cells #[.slice (some ⟨b, off, none⟩) n c] 24)).alloc (.cells #[.int .i64 0, .int .i64 0] 66)) = wv := ⟨_, rfl⟩
  have b0 : Box wv w.heap.size 24 #[.slice (some ⟨b, off, none⟩) n c] := by rw [← hwv]; exact (Box.new w _ _ rfl).alloc _
  have b1 : Box wv (w.heap.size + 1) 66 #[.int .i64 0, .int .i64 0] := by rw [← hwv]; exact Box.new _ _ _ (by simp)
  have hB0 : Below w.heap.size w wv := by rw [← hwv]; exact (by repeat (first | exact Below.refl _ _ | assumption | refine Below.setCell ?_ (by first | (simp; done) | (simp; omega)) _ | refine belowDrewN ?_ _ | refine Below.drew ?_ | refine Below.alloc ?_ (by first | (simp; done) | (simp; omega)) _))
  have HWV := Lib.hid hwv
  clear hwv
  have HB0 := Lib.hid b0
  have HB1 := Lib.hid b1
  have HBB0 := Lib.hid hB0
  have q0 := b0.cell 0
  simp only [List.getElem?_toArray, List.getElem?_cons_zero] at q0
  have e0 := oldCell hB0 hb a0
  have e1 := oldCell hB0 hb a1
  have e2 := oldCell hB0 hb l0
  have e3 := oldCell hB0 hb l1
  have P0 := Lib.hid p0
  have P1 := Lib.hid p1
  have R0 := Lib.hid r0
  have R1 := Lib.hid r1
  have hbw : b < wv.heap.size := by have := hB0.size; omega
  have hb0 := b0.lt
  have hb1 := b1.lt
  clear a0 a1 l0 l1 p0 p1 r0 r1
  have d1 : decide (x ≤ (kn ks 0).At) = false := decide_eq_false (by omega)
  have d2 : decide ((kn ks (n - 1)).At ≤ x) = false := decide_eq_false (by omega)
  have hn0 : 0 < n := by omega
  clear hf hl b0 b1 hB0
  generalize (kn ks 0).At = f0 at *
  generalize (kn ks 0).V = f1 at *
  generalize (kn ks (n - 1)).At = g0 at *
  generalize (kn ks (n - 1)).V = g1 at *
  have z1 : IntKind.i64.wrap ((n : Int) - 1) = (n : Int) - 1 := IntWalk.i64_in _ (by omega)
  have z2 : (0 : Int) ≤ (n : Int) - 1 := by omega
  have z3 : ((n : Int) - 1).toNat = n - 1 := by omega
  have z4 : (n : Int) - 1 < (n : Int) := by omega
  have z5 : (1 : Int) ≤ (n : Int) := by omega
  have z6 : 1 ≤ n := by omega
  go_enter Try.func104, Try.ntmps104
  go_wp2_with fail
  rw [HWV.out]
  go_region_held3 (fun w' => w'.cell? ⟨w.heap.size, 0, none⟩ = some (.slice (some ⟨b, off, none⟩) n c) ∧ w'.cell? ⟨b, off, none⟩ = some (.int .i64 f0) ∧ w'.cell? ⟨b, off + 1, none⟩ = some (.int .i64 f1) ∧ w'.cell? ⟨b, off + (n - 1) * 2, none⟩ = some (.int .i64 g0) ∧ w'.cell? ⟨b, off + (n - 1) * 2 + 1, none⟩ = some (.int .i64 g1)) (go_keep) (first | fail)
  all_goals
    go_wp2_with fail
    clear z1 z2 z3 z4 z5 z6 e0 e1 e2 e3 d1 d2 q0 hb0 hb1 hbw
    generalize hwz : World.drew _ = wz
    have hBz : Below wv.heap.size wv wz := by rw [← hwz]; exact (by repeat (first | exact Below.refl _ _ | assumption | refine Below.setCell ?_ (by first | (simp; done) | (simp; omega)) _ | refine belowDrewN ?_ _ | refine Below.drew ?_ | refine Below.alloc ?_ (by first | (simp; done) | (simp; omega)) _))
    clear hwz
    have q0 := (HB0.out.under hBz).cell 0
    simp only [List.getElem?_toArray, List.getElem?_cons_zero] at q0
    have c1 := HB1.out.under hBz
    have hBB := HBB0.out.trans (hBz.mono HBB0.out.size)
    have hbw : b < wz.heap.size := by have := hBB.size; omega
    have hb0 := (HB0.out.under hBz).lt
    have hb1 := c1.lt
    go_loop [7] (fun s7 => ∃ i : Nat, i < m ∧ s7 = .int .i64 i) (fun s7 => m - (intOf s7).toNat)
    case atStart => exact ⟨0, hm0, rfl⟩
    case round =>
      obtain ⟨i, hi, rfl⟩ := hrel
      have c0 := oldCell hBB hb (HK.out (i + 1) (by omega)).1
      by_cases hlt2 : i + 1 < m
      · have dd : decide ((kn ks (i + 1)).At < x) = true := decide_eq_true (HLT.out (i + 1) hlt2)
        go_wp2_with fail
        go_round
        case rel => exact ⟨i + 1, hlt2, by go_num⟩
        case measure => simp [intOf]; omega
      · obtain rfl : m = i + 1 := by omega
        have dd : decide ((kn ks (i + 1)).At < x) = false := decide_eq_false (by have := HGE.out; omega)
        have p0 := oldCell hBB hb P0.out
        have p1 := oldCell hBB hb P1.out
        have r0 := oldCell hBB hb R0.out
        have r1 := oldCell hBB hb R1.out
        rw [Nat.add_sub_cancel] at p0 p1
        go_wp2_with fail
        clear c0 dd
        have HBB := Lib.hid hBB
        have HC1 := Lib.hid c1
        have him : i < n := by omega
        clear hBB c1 hBz hm0 hi hlt2
        have z1 : IntKind.i64.wrap ((i : Int) + 1) = (i : Int) + 1 := IntWalk.i64_in _ (by omega)
        have z2 : (0 : Int) ≤ (i : Int) + 1 := by omega
        have z3 : ((i : Int) + 1).toNat = i + 1 := by omega
        have z4 : (i : Int) + 1 < (n : Int) := by omega
        have z5 : (i : Int) < (n : Int) := by omega
        go_region_held3 (fun w' => w'.cell? ⟨w.heap.size, 0, none⟩ = some (.slice (some ⟨b, off, none⟩) n c) ∧ w'.cell? ⟨b, off + i * 2, none⟩ = some (.int .i64 A0) ∧ w'.cell? ⟨b, off + i * 2 + 1, none⟩ = some (.int .i64 A1) ∧ w'.cell? ⟨b, off + (i + 1) * 2, none⟩ = some (.int .i64 B0) ∧ w'.cell? ⟨b, off + (i + 1) * 2 + 1, none⟩ = some (.int .i64 B1)) (go_keep) (first | fail)
        all_goals
          clear z1 z2 z3 z4 z5
          obtain ⟨⟨h1, h2, h3⟩, ⟨h4, h5, h6, h7, h8, h9, h10, h11⟩, hq1, hq2, hq3, hq4⟩ := HALL.out
          go_wp2_with fail
          go_quiet (fail)
          go_wp2_with fail
          generalize hwy : World.drewN _ nq = wy
          have hBy : Below wz.heap.size wz wy := by rw [← hwy]; exact (by repeat (first | exact Below.refl _ _ | assumption | refine Below.setCell ?_ (by first | (simp; done) | (simp; omega)) _ | refine belowDrewN ?_ _ | refine Below.drew ?_ | refine Below.alloc ?_ (by first | (simp; done) | (simp; omega)) _))
          first
            | (have u0 : wy.cell? ⟨wz.heap.size, 1, none⟩ = some (.int .i64 A1) := by
                rw [← hwy]
                exact (((Box.new wz 71 #[.int .i64 A0, .int .i64 A1] rfl).alloc _).drew.drewN _).cell 1)
            | (have u0 : wy.cell? ⟨wz.heap.size + 1, 1, none⟩ = some (.int .i64 A1) := by
                rw [← hwy]
                exact ((Box.new (wz.alloc _) 71 #[.int .i64 A0, .int .i64 A1] (by simp)).drew.drewN _).cell 1)
          clear hwy
          have c1 := HC1.out.under hBy
          have u1 := c1.cell 0
          have u2 := c1.cell 1
          have u3 := c1.frozen 0
          have u4 := c1.frozen 1
          have hBW := Lib.hid (HBB.out.trans (hBy.mono HBB.out.size))
          simp only [List.getElem?_toArray, List.getElem?_cons_zero, List.getElem?_cons_succ] at u1 u2
          clear hBy c1
          have v1 : IntKind.i64.wrap (A1 + (B1 - A1) * (x - A0) / (B0 - A0)) = A1 + (B1 - A1) * (x - A0) / (B0 - A0) := IntWalk.i64_in _ (by omega)
          have v2 : IntKind.i64.wrap (-((B1 - A1) * (x - A0))) = -((B1 - A1) * (x - A0)) := IntWalk.i64_in _ (by omega)
          have v3 : IntKind.i64.wrap (A1 - -((B1 - A1) * (x - A0)) / (B0 - A0)) = A1 - -((B1 - A1) * (x - A0)) / (B0 - A0) := IntWalk.i64_in _ (by omega)
          have k1 := fun W => ref02_floor ((B1 - A1) * (x - A0)) (B0 - A0) W (by omega) h2 h3 (by omega)
          have k2 := fun W => ref02_floor (-((B1 - A1) * (x - A0))) (B0 - A0) W (by omega) (by omega) (by omega) (by omega)
          have K1 := Lib.hid k1
          have K2 := Lib.hid k2
          clear k1 k2 h1 h2 h3 h4 h5 h6 h7 h8 h9 h10 h11 hq1 hq2 hq3 hq4
          refine wp_region_still_tail 14 mixed (by kernel_rfl) ?_
          simp only [List.take_succ_cons, List.take_zero, List.drop_succ_cons, List.drop_zero]
          repeat still_step
          still_call (K1.out _)
          repeat still_step
          still_call (K2.out _)
          repeat still_step
          refine wpStill_nil ?_
          change wpList _ _ _ _ _ wy.drew
          go_wp2_with fail
          refine bodyPost_ret ?_ rfl ⟨rfl, ?_⟩
          · simp [results, Try.results104, go_sem, u1, u2]
          · exact (hBW.out.drew.setCell (by simp) _).setCell (by simp) _

end Go.Proofs.Ytannipfohicpmaa

/- Walks of the reference of layer 2: the value of a line at a place, second part. -/
namespace Go.Proofs.Ytannipfohicpmaa
open Go.RowKit Go.Shelf Mpl

theorem load_range {w : World} {g : Nat} {x y : Int} {t : Nat} (b : Box w g t #[.int .i64 x, .int .i64 y]) : (loadVar 66 ⟨g, 0, none⟩).run Try.prog w = .ok (.agg #[.int .i64 x, .int .i64 y]) w := by
  have q0 := b.cell 0
  have q1 := b.cell 1
  simp only [List.getElem?_toArray, List.getElem?_cons_zero, List.getElem?_cons_succ] at q0 q1
  simp [go_sem, q0, q1]

set_option maxHeartbeats 4000000 in
set_option maxRecDepth 100000 in
theorem ref02_value_ends (ks : List Knot) (b off c n : Nat) (x : Int) (w : World) (hb : b < w.heap.size) (hn : n ≤ 24) (hn0 : 0 < n)
    (hk : ∀ i, i < n → w.cell? ⟨b, off + i * 2, none⟩ = some (.int .i64 (kn ks i).At) ∧ w.cell? ⟨b, off + i * 2 + 1, none⟩ = some (.int .i64 (kn ks i).V))
    (V : Int) (hx : (x ≤ (kn ks 0).At ∧ V = (kn ks 0).V) ∨ ((kn ks 0).At < x ∧ (kn ks (n - 1)).At ≤ x ∧ V = (kn ks (n - 1)).V)) :
    Calls Try.prog 104 #[.agg #[.slice (some ⟨b, off, none⟩) n c], .int .i64 x] w fun e w' => e = .returned (.agg #[.int .i64 V, .int .i64 V]) ∧ Below w.heap.size w w' := by
  obtain ⟨a0, a1⟩ := hk 0 (by omega)
  obtain ⟨l0, l1⟩ := hk (n - 1) (by omega)
  simp only [Nat.zero_mul, Nat.add_zero] at a0 a1
  clear hk
  obtain ⟨wv, hwv⟩ : ∃ wv, ((w.alloc (.cells #[.slice (some ⟨b, off, none⟩) n c] 24)).alloc (.cells #[.int .i64 0, .int .i64 0] 66)) = wv := ⟨_, rfl⟩
  have b0 : Box wv w.heap.size 24 #[.slice (some ⟨b, off, none⟩) n c] := by rw [← hwv]; exact (Box.new w _ _ rfl).alloc _
  have b1 : Box wv (w.heap.size + 1) 66 #[.int .i64 0, .int .i64 0] := by rw [← hwv]; exact Box.new _ _ _ (by simp)
  have hB0 : Below w.heap.size w wv := by rw [← hwv]; exact (by repeat (first | exact Below.refl _ _ | assumption | refine Below.setCell ?_ (by first | (simp; done) | (simp; omega)) _ | refine belowDrewN ?_ _ | refine Below.drew ?_ | refine Below.alloc ?_ (by first | (simp; done) | (simp; omega)) _))
  have HWV := Lib.hid hwv
  clear hwv
  have HBB0 := Lib.hid hB0
  have q0 := b0.cell 0
  have u1 := b1.cell 0
  have u2 := b1.cell 1
  have u3 := b1.frozen 0
  have u4 := b1.frozen 1
  simp only [List.getElem?_toArray, List.getElem?_cons_zero, List.getElem?_cons_succ] at q0 u1 u2
  have e0 := oldCell hB0 hb a0
  have e1 := oldCell hB0 hb a1
  have e2 := oldCell hB0 hb l0
  have e3 := oldCell hB0 hb l1
  have hbw : b < wv.heap.size := by have := hB0.size; omega
  have hb0 := b0.lt
  have hb1 := b1.lt
  have H5 := Lib.hid (show Box ((wv.setCell ⟨w.heap.size + 1, 0, none⟩ (.int .i64 V)).setCell ⟨w.heap.size + 1, 1, none⟩ (.int .i64 V)) (w.heap.size + 1) 66 #[.int .i64 V, .int .i64 V] by simpa using (b1.set_ 0 (.int .i64 V)).set_ 1 (.int .i64 V))
  clear a0 a1 l0 l1 b0 b1 hB0
  generalize (kn ks 0).At = f0 at *
  generalize (kn ks 0).V = f1 at *
  generalize (kn ks (n - 1)).At = g0 at *
  generalize (kn ks (n - 1)).V = g1 at *
  have z1 : IntKind.i64.wrap ((n : Int) - 1) = (n : Int) - 1 := IntWalk.i64_in _ (by omega)
  have z2 : (0 : Int) ≤ (n : Int) - 1 := by omega
  have z3 : ((n : Int) - 1).toNat = n - 1 := by omega
  have z4 : (n : Int) - 1 < (n : Int) := by omega
  have z5 : (1 : Int) ≤ (n : Int) := by omega
  have z6 : 1 ≤ n := by omega
  rcases hx with ⟨hx, rfl⟩ | ⟨hx1, hx2, rfl⟩
  · have d1 : decide (x ≤ f0) = true := decide_eq_true hx
    go_enter Try.func104, Try.ntmps104
    go_wp2_with fail
    rw [HWV.out]
    go_region_held3 (fun w' => w'.cell? ⟨w.heap.size, 0, none⟩ = some (.slice (some ⟨b, off, none⟩) n c) ∧ w'.cell? ⟨b, off, none⟩ = some (.int .i64 f0) ∧ w'.cell? ⟨b, off + 1, none⟩ = some (.int .i64 V) ∧ w'.cell? ⟨b, off + (n - 1) * 2, none⟩ = some (.int .i64 g0) ∧ w'.cell? ⟨b, off + (n - 1) * 2 + 1, none⟩ = some (.int .i64 g1)) (go_keep) (first | fail)
    all_goals
      clear z1 z2 z3 z4 z5 z6
      go_wp2_with fail
      refine bodyPost_ret (results_cell1 rfl _ _ _ (w.heap.size + 1) (.agg #[.int .i64 V, .int .i64 V]) rfl (load_range ((H5.out.alloc _).alloc _).drew)) rfl ⟨rfl, ?_⟩
      exact (((HBB0.out.setCell (p := ⟨w.heap.size + 1, 0, none⟩) (by simp) _).setCell (p := ⟨w.heap.size + 1, 1, none⟩) (by simp) _).alloc (by have := HBB0.out.size; simp; omega) _).alloc (by have := HBB0.out.size; simp; omega) _ |>.drew
  · have d1 : decide (x ≤ f0) = false := decide_eq_false (by omega)
    have d2 : decide (g0 ≤ x) = true := decide_eq_true hx2
    go_enter Try.func104, Try.ntmps104
    go_wp2_with fail
    rw [HWV.out]
    go_region_held3 (fun w' => w'.cell? ⟨w.heap.size, 0, none⟩ = some (.slice (some ⟨b, off, none⟩) n c) ∧ w'.cell? ⟨b, off, none⟩ = some (.int .i64 f0) ∧ w'.cell? ⟨b, off + 1, none⟩ = some (.int .i64 f1) ∧ w'.cell? ⟨b, off + (n - 1) * 2, none⟩ = some (.int .i64 g0) ∧ w'.cell? ⟨b, off + (n - 1) * 2 + 1, none⟩ = some (.int .i64 V)) (go_keep) (first | fail)
    all_goals
      clear z1 z2 z3 z4 z5 z6
      go_wp2_with fail
      refine bodyPost_ret (results_cell1 rfl _ _ _ (w.heap.size + 1) (.agg #[.int .i64 V, .int .i64 V]) rfl (load_range ((H5.out.alloc _).alloc _).drew)) rfl ⟨rfl, ?_⟩
      exact (((HBB0.out.setCell (p := ⟨w.heap.size + 1, 0, none⟩) (by simp) _).setCell (p := ⟨w.heap.size + 1, 1, none⟩) (by simp) _).alloc (by have := HBB0.out.size; simp; omega) _).alloc (by have := HBB0.out.size; simp; omega) _ |>.drew

theorem ref02_value (ks : List Knot) (v0 : Value) (x : Int) (w : World) (hv : LineV w w.heap.size v0 ks) (hr : right ks = true) :
    Calls Try.prog 104 #[v0, .int .i64 x] w fun e w' => e = .returned (.agg #[.int .i64 (value ks x).Lo, .int .i64 (value ks x).Hi]) ∧ Below w.heap.size w w' := by
  obtain ⟨a, v, hg, ha, hvv, hav⟩ := right_good hr
  obtain ⟨A, c, rfl, hk⟩ := hv
  have hpos := hg.pos
  obtain ⟨b, off, rfl, hb, hc⟩ := hk.out hpos
  have hle := before_le x ks
  have hfew := hg.few
  by_cases h0 : before x ks = 0
  · rw [show value ks x = ⟨(kn ks 0).V, (kn ks 0).V⟩ by simp [value, h0]]
    have hx := before_ge x ks (by omega)
    rw [h0] at hx
    exact ref02_value_ends ks b off c ks.length x w hb hfew hpos hc _ (.inl ⟨hx, rfl⟩)
  have hf := before_lt x ks 0 (by omega)
  by_cases hn : before x ks = ks.length
  · rw [show value ks x = ⟨(kn ks (ks.length - 1)).V, (kn ks (ks.length - 1)).V⟩ by unfold value; rw [if_neg h0, if_pos hn]]
    have hx := before_lt x ks (ks.length - 1) (by omega)
    exact ref02_value_ends ks b off c ks.length x w hb hfew hpos hc _ (.inr ⟨hf, by omega, rfl⟩)
  have hvl : value ks x = between (kn ks (before x ks - 1)) (kn ks (before x ks)) x := by unfold value; rw [if_neg h0, if_neg hn]
  rw [hvl, between]
  dsimp only
  have hlt1 := hg.up (before x ks - 1) (by omega)
  rw [show before x ks - 1 + 1 = before x ks by omega] at hlt1
  have hlt2 := before_lt x ks (before x ks - 1) (by omega)
  have hge := before_ge x ks (by omega)
  have va := hg.v0 (before x ks - 1) (by omega)
  have vb := hg.v0 (before x ks) (by omega)
  have aa := hg.at0 (before x ks - 1) (by omega)
  have ab := hg.at0 (before x ks) (by omega)
  by_cases hl : (kn ks (ks.length - 1)).At ≤ x
  · have hm : before x ks = ks.length - 1 := by
      rcases Nat.lt_or_ge (before x ks) (ks.length - 1) with h | h
      · have := hg.lt h (by omega); omega
      · omega
    have hxe : (kn ks (before x ks)).At = x := by rw [hm] at hge ⊢; omega
    have hvv : ∀ ka kb : Knot, ka.At < kb.At → kb.At = x → ka.V + (kb.V - ka.V) * (x - ka.At) / (kb.At - ka.At) = kb.V ∧ ka.V - -((kb.V - ka.V) * (x - ka.At)) / (kb.At - ka.At) = kb.V := fun ka kb h1 h2 => by
      subst h2
      have e1 : (kb.V - ka.V) * (kb.At - ka.At) / (kb.At - ka.At) = kb.V - ka.V := Int.mul_ediv_cancel _ (by omega)
      have e2 : -((kb.V - ka.V) * (kb.At - ka.At)) / (kb.At - ka.At) = -(kb.V - ka.V) := by rw [← Int.neg_mul]; exact Int.mul_ediv_cancel _ (by omega)
      rw [e1, e2]
      omega
    obtain ⟨e1, e2⟩ := hvv _ _ hlt1 hxe
    rw [e1, e2, hm]
    exact ref02_value_ends ks b off c ks.length x w hb hfew hpos hc _ (.inr ⟨hf, hl, rfl⟩)
  · have hp := prod_small ((kn ks (before x ks)).V - (kn ks (before x ks - 1)).V) (x - (kn ks (before x ks - 1)).At) a v (by omega) (by omega) (by omega) (by omega) hav
    exact ref02_value_walk ks b off c ks.length (before x ks) x _ _ _ _ w hb hfew (by omega) (by omega) hc hf (by omega) (before_lt x ks) hge rfl rfl hlt1 hp.1 hp.2 va.1 (by omega) vb.1 (by omega) aa.1 (by omega) hlt2 hge

set_option maxHeartbeats 1000000 in
theorem ref02_At (ks : List Knot) (v0 : Value) (x : Int) (w : World) (hv : LineV w w.heap.size v0 ks) :
    Calls Try.prog 85 #[v0, .int .i64 x] w fun e w' => e = .returned (.agg #[.int .i64 (At ks x).Lo, .int .i64 (At ks x).Hi]) ∧ Below w.heap.size w w' := by
  have HV := Lib.hid hv
  obtain ⟨A, c, rfl, hk⟩ := hv
  clear hk
  have HR := Lib.hid (fun W (hW : Below w.heap.size w W) => ref02_right _ ks W (HV.out.below hW))
  have HVL := Lib.hid (fun h W (hW : Below w.heap.size w W) => ref02_value ks _ x W (HV.out.below hW) h)
  generalize ks.length = n at *
  obtain ⟨wv, hwv⟩ : ∃ wv, ((w.alloc (.cells #[.slice A n c] 24)).alloc (.cells #[.int .i64 0, .int .i64 0] 66)) = wv := ⟨_, rfl⟩
  have b0 : Box wv w.heap.size 24 #[.slice A n c] := by rw [← hwv]; exact (Box.new w _ _ rfl).alloc _
  have b1 : Box wv (w.heap.size + 1) 66 #[.int .i64 0, .int .i64 0] := by rw [← hwv]; exact Box.new _ _ _ (by simp)
  have hB0 : Below w.heap.size w wv := by rw [← hwv]; exact (by repeat (first | exact Below.refl _ _ | assumption | refine Below.setCell ?_ (by first | (simp; done) | (simp; omega)) _ | refine belowDrewN ?_ _ | refine Below.drew ?_ | refine Below.alloc ?_ (by first | (simp; done) | (simp; omega)) _))
  have HWV := Lib.hid hwv
  clear hwv
  cases hr : right ks
  · have hs := Lib.hid (show At ks x = ⟨0, 0⟩ by simp [At, hr])
    rw [hr] at HR
    clear HVL hr
    go_enter Try.func85, Try.ntmps85
    go_wp2_with fail
    rw [HWV.out]
    refine (HR.out _ hB0).mono ?_
    rintro e w1 ⟨rfl, hb1⟩
    have c1 := b1.under hb1
    have hB1 := hB0.trans (hb1.mono hB0.size)
    have q1 := c1.cell 0
    have q2 := c1.cell 1
    have q5 := c1.frozen 0
    have q6 := c1.frozen 1
    simp only [List.getElem?_toArray, List.getElem?_cons_zero, List.getElem?_cons_succ] at q1 q2
    go_wp2_with fail
    refine bodyPost_ret (v := .agg #[.int .i64 0, .int .i64 0]) (results_cell1 rfl _ _ _ (w.heap.size + 1) _ rfl (load_range (t := 66) ?_)) rfl ⟨by rw [hs.out], ?_⟩
    · simpa using (c1.set_ 0 (.int .i64 0)).set_ 1 (.int .i64 0)
    · exact (hB1.setCell (by simp) _).setCell (by simp) _
  · have hs := Lib.hid (show At ks x = value ks x by simp [At, hr])
    rw [hr] at HR
    replace HVL := Lib.hid (HVL.out hr)
    clear hr
    go_enter Try.func85, Try.ntmps85
    go_wp2_with fail
    rw [HWV.out]
    refine (HR.out _ hB0).mono ?_
    rintro e w1 ⟨rfl, hb1⟩
    have hB1 := hB0.trans (hb1.mono hB0.size)
    have q0 := (b0.under hb1).cell 0
    simp only [List.getElem?_toArray, List.getElem?_cons_zero] at q0
    go_wp2_with fail
    refine (HVL.out _ hB1).mono ?_
    rintro e w2 ⟨rfl, hb2⟩
    have c1 := (b1.under hb1).under hb2
    have hB2 := hB1.trans (hb2.mono hB1.size)
    have q1 := c1.cell 0
    have q2 := c1.cell 1
    have q5 := c1.frozen 0
    have q6 := c1.frozen 1
    simp only [List.getElem?_toArray, List.getElem?_cons_zero, List.getElem?_cons_succ] at q1 q2
    clear q0
    go_wp2_with fail
    refine bodyPost_ret (v := .agg #[.int .i64 (value ks x).Lo, .int .i64 (value ks x).Hi]) (results_cell1 rfl _ _ _ (w.heap.size + 1) _ rfl (load_range (t := 66) ?_)) rfl ⟨by rw [hs.out], ?_⟩
    · simpa using (c1.set_ 0 (.int .i64 (value ks x).Lo)).set_ 1 (.int .i64 (value ks x).Hi)
    · exact (hB2.setCell (by simp) _).setCell (by simp) _

end Go.Proofs.Ytannipfohicpmaa

/- Walks of the reference of layer 5: the loads inside and outside, and what is needed. -/
namespace Go.Proofs.Ytannipfohicpmaa
open Go.RowKit Go.Shelf Mpl

set_option maxHeartbeats 1000000 in
theorem ref05_line (v0 : Value) (ks : List Knot) (w : World) (hv : LineV w w.heap.size v0 ks) :
    Calls Try.prog 77 #[v0] w fun e w' => e = .returned (.int .i64 (okLine ks)) ∧ Below w.heap.size w w' := by
  have HV := Lib.hid hv
  obtain ⟨A, c, rfl, _⟩ := hv
  have HC1 := Lib.hid (fun W (hW : Below w.heap.size w W) => ref02_CheckLine _ ks 1048576 68719476736 W (HV.out.below hW))
  unfold okLine
  generalize checkLine ks 1048576 68719476736 = e1 at *
  generalize ks.length = n at *
  have HB := Lib.hid ((Below.refl w.heap.size w).alloc (Nat.le_refl _) (.cells #[.slice A n c] 24))
  go_enter Try.func77, Try.ntmps77
  go_wp2_with fail
  refine (HC1.out _ HB.out).mono ?_
  rintro e w1 ⟨rfl, hb1⟩
  go_wp2_with fail
  go_ret
  exact ⟨rfl, HB.out.trans (hb1.mono HB.out.size)⟩

set_option maxHeartbeats 1000000 in
theorem ref05_Needed (q factor : Int) (w : World) :
    Calls Try.prog 20 #[.int .i64 q, .int .i64 factor] w fun e w' => e = .returned (.int .i64 (needed q factor)) ∧ w = w' := by
  by_cases hr : -68719476736 ≤ q ∧ q ≤ 68719476736 ∧ 1000 ≤ factor ∧ factor ≤ 3000
  case neg =>
    have hs := Lib.hid (show needed q factor = 0 by unfold needed; rw [if_neg]; simp [within]; omega)
    have hc : q < -68719476736 ∨ (-68719476736 ≤ q ∧ 68719476736 < q) ∨ (-68719476736 ≤ q ∧ q ≤ 68719476736 ∧ factor < 1000) ∨ (-68719476736 ≤ q ∧ q ≤ 68719476736 ∧ 1000 ≤ factor ∧ 3000 < factor) := by omega
    clear hr
    rcases hc with h1 | ⟨h1, h2⟩ | ⟨h1, h2, h3⟩ | ⟨h1, h2, h3, h4⟩
    · have d1 : decide (q < -68719476736) = true := decide_eq_true (by omega)
      go_enter Try.func20, Try.ntmps20
      go_wp2_with fail
      go_ret
      exact ⟨ret_int hs.out.symm, rfl⟩
    · have d1 : decide (q < -68719476736) = false := decide_eq_false (by omega)
      have d2 : decide (68719476736 < q) = true := decide_eq_true (by omega)
      go_enter Try.func20, Try.ntmps20
      go_wp2_with fail
      go_ret
      exact ⟨ret_int hs.out.symm, rfl⟩
    · have d1 : decide (q < -68719476736) = false := decide_eq_false (by omega)
      have d2 : decide (68719476736 < q) = false := decide_eq_false (by omega)
      have d3 : decide (factor < 1000) = true := decide_eq_true (by omega)
      go_enter Try.func20, Try.ntmps20
      go_wp2_with fail
      go_ret
      exact ⟨ret_int hs.out.symm, rfl⟩
    · have d1 : decide (q < -68719476736) = false := decide_eq_false (by omega)
      have d2 : decide (68719476736 < q) = false := decide_eq_false (by omega)
      have d3 : decide (factor < 1000) = false := decide_eq_false (by omega)
      have d4 : decide (3000 < factor) = true := decide_eq_true (by omega)
      go_enter Try.func20, Try.ntmps20
      go_wp2_with fail
      go_ret
      exact ⟨ret_int hs.out.symm, rfl⟩
  obtain ⟨e3, e4, e5, e6⟩ := hr
  have hs := Lib.hid (show needed q factor = (max q 0 * factor + 999) / 1000 by unfold needed; rw [if_pos]; simp [within]; omega)
  have d1 : decide (q < -68719476736) = false := decide_eq_false (by omega)
  have d2 : decide (68719476736 < q) = false := decide_eq_false (by omega)
  have d3 : decide (factor < 1000) = false := decide_eq_false (by omega)
  have d4 : decide (3000 < factor) = false := decide_eq_false (by omega)
  by_cases hq : 0 < q
  · rw [show max q 0 = q by omega] at hs
    obtain ⟨r1, r2⟩ := mul_room q factor (by omega) e4 e5 e6
    go_enter Try.func20, Try.ntmps20
    go_wp2_with fail
    go_ret
    exact ⟨ret_int hs.out.symm, rfl⟩
  · rw [show max q 0 = 0 by omega] at hs
    go_enter Try.func20, Try.ntmps20
    go_wp2_with fail
    go_ret
    exact ⟨ret_int (by rw [hs.out]; simp), rfl⟩

/-- the fold of the reference -/
def refold (ex : Int → Int) (lo hi : Int) (l : List Int) (o : Int) : Int := l.foldl (fun o z => if lo ≤ z ∧ z ≤ hi then max o (ex z) else o) o
theorem refold_filter (ex : Int → Int) (lo hi : Int) (l : List Int) (o : Int) : refold ex lo hi l o = (l.filter fun z => within z lo hi).foldl (fun o z => max o (ex z)) o := by
  induction l generalizing o with
  | nil => rfl
  | cons z l ih =>
    unfold refold at ih ⊢
    rw [List.foldl_cons, List.filter_cons]
    by_cases h : lo ≤ z ∧ z ≤ hi
    · rw [if_pos h, if_pos (by simp [within, h]), List.foldl_cons, ih]
    · rw [if_neg h, if_neg (by simp [within]; omega), ih]
theorem refold_places (a b : List Knot) (lo hi : Int) (h : lo ≤ hi) : refold (excessAt a b) lo hi ([lo, hi] ++ a.map Knot.At ++ b.map Knot.At) (excessAt a b lo) = (places a b lo hi).foldl (fun o z => max o (excessAt a b z)) (excessAt a b lo) := by
  rw [refold_filter, List.append_assoc, List.filter_append, ← List.map_append]
  have : ([lo, hi].filter fun z => within z lo hi) = [lo, hi] := by simp [within, h]
  rw [this, places]
  simp only [List.cons_append, List.nil_append, List.foldl_cons]
  rw [show max (excessAt a b lo) (excessAt a b lo) = excessAt a b lo by omega]
theorem refold_step (ex : Int → Int) (lo hi : Int) (l : List Int) (k : Nat) (h : k < l.length) (o : Int) : refold ex lo hi (l.drop k) o = refold ex lo hi (l.drop (k + 1)) (if lo ≤ pick l k ∧ pick l k ≤ hi then max o (ex (pick l k)) else o) := by
  unfold refold
  rw [List.drop_eq_getElem_cons h, List.foldl_cons, pick_get l k h]

theorem take_map_step (ks : List Knot) (k : Nat) (h : k < ks.length) : (ks.take (k + 1)).map Knot.At = (ks.take k).map Knot.At ++ [(kn ks k).At] := by
  rw [List.take_succ_eq_append_getElem h, List.map_append]
  simp [kn, h]

end Go.Proofs.Ytannipfohicpmaa

/- Walks of the reference of layer 5: which jobs are valid. -/
namespace Go.Proofs.Ytannipfohicpmaa
open Go.RowKit Go.Shelf Mpl

theorem any_pick (q : Int → Bool) (l : List Int) (k : Nat) (h : k < l.length) : (l.drop k).any q = (q (pick l k) || (l.drop (k + 1)).any q) := by
  rw [List.drop_eq_getElem_cons h, List.any_cons, pick_get l k h]

set_option maxHeartbeats 2000000 in
theorem ref05_ends (l : List Int) (A : Option Addr) (c : Nat) (w : World) (hl : Ints w w.heap.size A l) :
    Calls Try.prog 76 #[.slice A l.length c] w fun e w' => e = .returned (.int .i64 (checkEnds l)) ∧ Below w.heap.size w w' := by
  by_cases h0 : l.length = 0
  · have hs : Hid (checkEnds l = 6) := by simp [checkEnds, h0, Hid]
    have hz : (((0 : Nat) : Int) == 0) = true := by simp
    rw [h0]
    clear hl h0
    go_enter Try.func76, Try.ntmps76
    go_wp2_with fail
    go_ret
    exact ⟨ret_int hs.out.symm, Below.refl _ _⟩
  have hz : ((l.length : Int) == 0) = false := beq_eq_false_iff_ne.2 (by omega)
  by_cases h5 : 5 < l.length
  · have hs : Hid (checkEnds l = 8) := by simp [checkEnds, h0, h5, Hid]
    have hz2 : decide ((5 : Int) < (l.length : Int)) = true := decide_eq_true (by omega)
    clear hl h0
    generalize l.length = n at *
    go_enter Try.func76, Try.ntmps76
    go_wp2_with fail
    go_ret
    exact ⟨ret_int hs.out.symm, Below.refl _ _⟩
  have hz2 : decide ((5 : Int) < (l.length : Int)) = false := decide_eq_false (by omega)
  obtain ⟨b, off, rfl, hb, hc⟩ := hl (by omega)
  have HC := Lib.hid hc
  have hres : Hid (checkEnds l = if l.any (fun z => !within z 1 1048576) then 2 else if ascends (pick l 0) (l.drop 1) then 0 else 11) := by
    unfold Hid checkEnds
    rw [if_neg h0, if_neg h5]
    cases l with
    | nil => simp at h0
    | cons a l => simp [pick]
  have HAP := Lib.hid (fun q => any_pick q l)
  have HAS := Lib.hid (asc_step l)
  clear hl hc
  generalize checkEnds l = res at *
  generalize hn : l.length = n at *
  have HN := Lib.hid hn
  have hn0 : 0 < n := by omega
  clear hn h0
  go_enter Try.func76, Try.ntmps76
  go_wp2_with fail
  go_loop [3] (fun s3 => ∃ k : Nat, k ≤ n ∧ s3 = .int .i64 k ∧ Hid ((l.drop k).any (fun z => !within z 1 1048576) = l.any (fun z => !within z 1 1048576))) (fun s3 => n - (intOf s3).toNat)
  case atStart => exact ⟨0, Nat.zero_le _, rfl, rfl⟩
  case round =>
    obtain ⟨k, hk, rfl, hr⟩ := hrel
    by_cases hlt : k < n
    · have e0 := HC.out k hlt
      have hs := Lib.hid (HAP.out (fun z => !within z 1 1048576) k hlt)
      have hw : Hid (within (pick l k) 1 1048576 = decide (1 ≤ pick l k ∧ pick l k ≤ 1048576)) := rfl
      generalize pick l k = z at *
      by_cases g1 : z < 1
      · have d1 : decide (z < 1) = true := decide_eq_true g1
        have hf : Hid (res = 2) := by
          unfold Hid
          rw [hres.out, ← hr.out, hs.out, hw.out, decide_eq_false (by omega)]
          simp
        go_wp2_with fail
        go_ret
        exact ⟨ret_int hf.out.symm, Below.refl _ _⟩
      have d1 : decide (z < 1) = false := decide_eq_false g1
      by_cases g2 : 1048576 < z
      · have d2 : decide (1048576 < z) = true := decide_eq_true g2
        have hf : Hid (res = 2) := by
          unfold Hid
          rw [hres.out, ← hr.out, hs.out, hw.out, decide_eq_false (by omega)]
          simp
        go_wp2_with fail
        go_ret
        exact ⟨ret_int hf.out.symm, Below.refl _ _⟩
      have d2 : decide (1048576 < z) = false := decide_eq_false g2
      have hnx : Hid ((l.drop (k + 1)).any (fun z => !within z 1 1048576) = l.any (fun z => !within z 1 1048576)) := by
        unfold Hid
        rw [← hr.out, hs.out, hw.out, decide_eq_true (by omega)]
        simp
      go_wp2_with fail
      go_round
      case rel => exact ⟨k + 1, hlt, by go_num, hnx⟩
      case measure => simp [intOf]; omega
    · have hany : l.any (fun z => !within z 1 1048576) = false := by
        rw [← hr.out, List.drop_eq_nil_of_le (by rw [HN.out]; omega)]
        rfl
      have hres2 : Hid (res = if ascends (pick l 0) (l.drop 1) then 0 else 11) := by unfold Hid; rw [hres.out, hany]; rfl
      clear hany
      go_wp2_with fail
      clear hk hr hlt
      go_loopw [4] (fun s4 wr => ∃ k : Nat, k + 1 ≤ n ∧ s4 = .int .i64 ((k + 1 : Nat) : Int) ∧ Hid ((if ascends (pick l k) (l.drop (k + 1)) then (0 : Int) else 11) = res) ∧ Hid (Below w.heap.size w wr)) (fun s4 _ => n - (intOf s4).toNat)
      case atStart => exact ⟨0, by omega, rfl, hres2.out.symm, Below.refl _ _⟩
      case round =>
        obtain ⟨k, hk, rfl, hr, BW⟩ := hrel
        by_cases hlt : k + 1 < n
        · have e0 := oldCell BW.out hb (HC.out k (by omega))
          have e1 := oldCell BW.out hb (HC.out (k + 1) (by omega))
          have hs := Lib.hid (HAS.out k hlt)
          have hbw : b < wr.heap.size := by have := BW.out.size; omega
          by_cases g1 : pick l (k + 1) ≤ pick l k
          · have d1 : decide (pick l (k + 1) ≤ pick l k) = true := decide_eq_true g1
            have hf : Hid (res = 11) := by unfold Hid; rw [← hr.out, hs.out, decide_eq_false (by omega)]; rfl
            go_wp2_with fail
            go_region
            go_wp2_with fail
            go_ret
            exact ⟨ret_int hf.out.symm, (by repeat (first | exact Below.refl _ _ | assumption | refine Below.setCell ?_ (by first | (simp; done) | (simp; omega)) _ | refine belowDrewN ?_ _ | refine Below.drew ?_ | refine Below.alloc ?_ (by first | (simp; done) | (simp; omega)) _))⟩
          · have d1 : decide (pick l (k + 1) ≤ pick l k) = false := decide_eq_false g1
            have hf : Hid ((if ascends (pick l (k + 1)) (l.drop (k + 1 + 1)) then (0 : Int) else 11) = res) := by unfold Hid; rw [← hr.out, hs.out, decide_eq_true (by omega), Bool.true_and]
            go_wp2_with fail
            go_region
            go_wp2_with fail
            go_roundw
            case rel => exact ⟨k + 1, by omega, by go_num, hf, BW.out.drew⟩
            case measure => simp [intOf]; omega
        · go_wp2_with fail
          go_ret
          refine ⟨ret_int ?_, BW.out⟩
          rw [← hr.out, List.drop_eq_nil_of_le (by rw [HN.out]; omega)]
          rfl

theorem grade_iff (g : Grade) : fairGrade g = (decide (0 ≤ g.Burst) && decide (g.Burst ≤ 68719476736) && decide (0 ≤ g.Collapse) && decide (g.Collapse ≤ 68719476736) && decide (1 ≤ g.Pull) && decide (g.Pull ≤ 1099511627776) && decide (0 ≤ g.Weight) && decide (g.Weight ≤ 1048576) && decide (0 ≤ g.Cost) && decide (g.Cost ≤ 1048576)) := by
  simp only [fairGrade, within, Bool.decide_and, Bool.and_assoc]

set_option maxHeartbeats 2000000 in
theorem ref05_grade (g : Grade) (w : World) :
    Calls Try.prog 78 #[gradeV g] w fun e w' => e = .returned (.bool (fairGrade g)) ∧ Below w.heap.size w w' := by
  rw [grade_iff]
  unfold gradeV
  generalize g.Burst = a at *
  generalize g.Collapse = b at *
  generalize g.Pull = c at *
  generalize g.Weight = d at *
  generalize g.Cost = e at *
  cases h1 : decide (0 ≤ a)
  · go_enter Try.func78, Try.ntmps78
    go_wp2_with fail
    go_ret
    exact ⟨rfl, (by repeat (first | exact Below.refl _ _ | assumption | refine Below.setCell ?_ (by first | (simp; done) | (simp; omega)) _ | refine belowDrewN ?_ _ | refine Below.drew ?_ | refine Below.alloc ?_ (by first | (simp; done) | (simp; omega)) _))⟩
  cases h2 : decide (a ≤ 68719476736)
  · go_enter Try.func78, Try.ntmps78
    go_wp2_with fail
    go_ret
    exact ⟨rfl, (by repeat (first | exact Below.refl _ _ | assumption | refine Below.setCell ?_ (by first | (simp; done) | (simp; omega)) _ | refine belowDrewN ?_ _ | refine Below.drew ?_ | refine Below.alloc ?_ (by first | (simp; done) | (simp; omega)) _))⟩
  cases h3 : decide (0 ≤ b)
  · go_enter Try.func78, Try.ntmps78
    go_wp2_with fail
    go_ret
    exact ⟨rfl, (by repeat (first | exact Below.refl _ _ | assumption | refine Below.setCell ?_ (by first | (simp; done) | (simp; omega)) _ | refine belowDrewN ?_ _ | refine Below.drew ?_ | refine Below.alloc ?_ (by first | (simp; done) | (simp; omega)) _))⟩
  cases h4 : decide (b ≤ 68719476736)
  · go_enter Try.func78, Try.ntmps78
    go_wp2_with fail
    go_ret
    exact ⟨rfl, (by repeat (first | exact Below.refl _ _ | assumption | refine Below.setCell ?_ (by first | (simp; done) | (simp; omega)) _ | refine belowDrewN ?_ _ | refine Below.drew ?_ | refine Below.alloc ?_ (by first | (simp; done) | (simp; omega)) _))⟩
  cases h5 : decide (1 ≤ c)
  · go_enter Try.func78, Try.ntmps78
    go_wp2_with fail
    go_ret
    exact ⟨rfl, (by repeat (first | exact Below.refl _ _ | assumption | refine Below.setCell ?_ (by first | (simp; done) | (simp; omega)) _ | refine belowDrewN ?_ _ | refine Below.drew ?_ | refine Below.alloc ?_ (by first | (simp; done) | (simp; omega)) _))⟩
  cases h6 : decide (c ≤ 1099511627776)
  · go_enter Try.func78, Try.ntmps78
    go_wp2_with fail
    go_ret
    exact ⟨rfl, (by repeat (first | exact Below.refl _ _ | assumption | refine Below.setCell ?_ (by first | (simp; done) | (simp; omega)) _ | refine belowDrewN ?_ _ | refine Below.drew ?_ | refine Below.alloc ?_ (by first | (simp; done) | (simp; omega)) _))⟩
  cases h7 : decide (0 ≤ d)
  · go_enter Try.func78, Try.ntmps78
    go_wp2_with fail
    go_ret
    exact ⟨rfl, (by repeat (first | exact Below.refl _ _ | assumption | refine Below.setCell ?_ (by first | (simp; done) | (simp; omega)) _ | refine belowDrewN ?_ _ | refine Below.drew ?_ | refine Below.alloc ?_ (by first | (simp; done) | (simp; omega)) _))⟩
  cases h8 : decide (d ≤ 1048576)
  · go_enter Try.func78, Try.ntmps78
    go_wp2_with fail
    go_ret
    exact ⟨rfl, (by repeat (first | exact Below.refl _ _ | assumption | refine Below.setCell ?_ (by first | (simp; done) | (simp; omega)) _ | refine belowDrewN ?_ _ | refine Below.drew ?_ | refine Below.alloc ?_ (by first | (simp; done) | (simp; omega)) _))⟩
  cases h9 : decide (0 ≤ e)
  · go_enter Try.func78, Try.ntmps78
    go_wp2_with fail
    go_ret
    exact ⟨rfl, (by repeat (first | exact Below.refl _ _ | assumption | refine Below.setCell ?_ (by first | (simp; done) | (simp; omega)) _ | refine belowDrewN ?_ _ | refine Below.drew ?_ | refine Below.alloc ?_ (by first | (simp; done) | (simp; omega)) _))⟩
  cases h10 : decide (e ≤ 1048576)
  · go_enter Try.func78, Try.ntmps78
    go_wp2_with fail
    go_ret
    exact ⟨rfl, (by repeat (first | exact Below.refl _ _ | assumption | refine Below.setCell ?_ (by first | (simp; done) | (simp; omega)) _ | refine belowDrewN ?_ _ | refine Below.drew ?_ | refine Below.alloc ?_ (by first | (simp; done) | (simp; omega)) _))⟩
  · go_enter Try.func78, Try.ntmps78
    go_wp2_with fail
    go_ret
    exact ⟨rfl, (by repeat (first | exact Below.refl _ _ | assumption | refine Below.setCell ?_ (by first | (simp; done) | (simp; omega)) _ | refine belowDrewN ?_ _ | refine Below.drew ?_ | refine Below.alloc ?_ (by first | (simp; done) | (simp; omega)) _))⟩

theorem any_grade (q : Grade → Bool) (l : List Grade) (k : Nat) (h : k < l.length) : (l.drop k).any q = (q (gd l k) || (l.drop (k + 1)).any q) := by
  rw [List.drop_eq_getElem_cons h, List.any_cons]
  simp [gd, h]

end Go.Proofs.Ytannipfohicpmaa

/- Walks of the reference of layer 5: which jobs are valid, second part. -/
namespace Go.Proofs.Ytannipfohicpmaa
open Go.RowKit Go.Shelf Mpl

theorem job_box {w W : World} {j : Job} {AE AL AG : Option Addr} {nE nL nG cE cL cG : Nat} (h : Box W w.heap.size 36 #[.slice AE nE cE, .slice AL nL cL, .slice AG nG cG, .int .i64 j.Factor, .int .i64 j.Over]) :
    W.cell? ⟨w.heap.size, 0, none⟩ = some (.slice AE nE cE) ∧ W.cell? ⟨w.heap.size, 1, none⟩ = some (.slice AL nL cL) ∧ W.cell? ⟨w.heap.size, 2, none⟩ = some (.slice AG nG cG) ∧ W.cell? ⟨w.heap.size, 3, none⟩ = some (.int .i64 j.Factor) ∧ W.cell? ⟨w.heap.size, 4, none⟩ = some (.int .i64 j.Over) :=
  ⟨h.cell 0, h.cell 1, h.cell 2, h.cell 3, h.cell 4⟩

theorem rest_any {gs : List Grade} {f o : Int} (h0 : ¬ gs.length = 0) (h6 : ¬ 6 < gs.length) : checkRest gs f o = if gs.any (fun g => !fairGrade g) then 2 else if f < 1000 ∨ 3000 < f ∨ o < 0 ∨ 1099511627776 < o then 2 else 0 := by
  have hw : (!within f 1000 3000 || !within o 0 1099511627776) = decide (f < 1000 ∨ 3000 < f ∨ o < 0 ∨ 1099511627776 < o) := by
    rw [Bool.eq_iff_iff]
    simp [within]
    omega
  rw [checkRest, if_neg h0, if_neg h6, Bool.or_assoc, hw]
  cases gs.any (fun g => !fairGrade g)
  · simp
  · simp

set_option maxHeartbeats 8000000 in
set_option maxRecDepth 100000 in
theorem ref05_Check_core (j : Job) (AE AL AG : Option Addr) (nE nL nG cE cL cG : Nat) (w : World) (hnL : nL = j.Loads.length) (hnG : nG = j.Grades.length) (h6 : nL ≤ 6)
    (hE : ∀ W, Below w.heap.size w W → Calls Try.prog 76 #[.slice AE nE cE] W fun e W' => e = .returned (.int .i64 0) ∧ Below W.heap.size W W')
    (hL : Loads w w.heap.size AL j.Loads) (hG : Grades w w.heap.size AG j.Grades) :
    Calls Try.prog 42 #[.agg #[.slice AE nE cE, .slice AL nL cL, .slice AG nG cG, .int .i64 j.Factor, .int .i64 j.Over]] w fun e w' =>
      e = .returned (.int .i64 (if checkLoads j.Loads ≠ 0 then checkLoads j.Loads else checkRest j.Grades j.Factor j.Over)) ∧ Below w.heap.size w w' := by
  have hB := (Below.refl w.heap.size w).alloc (Nat.le_refl _) (.cells #[.slice AE nE cE, .slice AL nL cL, .slice AG nG cG, .int .i64 j.Factor, .int .i64 j.Over] 36)
  have HE := Lib.hid (hE _ hB)
  have HL := Lib.hid hL
  have HG := Lib.hid hG
  have HNL := Lib.hid hnL
  have HNG := Lib.hid hnG
  clear hE hL hG hnL hnG
  have hz6 : decide ((6 : Int) < (nL : Int)) = false := decide_eq_false (by omega)
  generalize hres : (if checkLoads j.Loads ≠ 0 then checkLoads j.Loads else checkRest j.Grades j.Factor j.Over) = res
  have HR := Lib.hid hres
  clear hres
  go_enter Try.func42, Try.ntmps42
  go_wp2_with fail
  refine HE.out.mono ?_
  rintro e w1 ⟨rfl, hb1⟩
  have b0 : Box w1 w.heap.size 36 #[.slice AE nE cE, .slice AL nL cL, .slice AG nG cG, .int .i64 j.Factor, .int .i64 j.Over] := (Box.new w _ _ rfl).under hb1
  have HB1 := Lib.hid (hB.trans (hb1.mono hB.size))
  have Hb0 := Lib.hid b0
  obtain ⟨_, q1, _, _, _⟩ := job_box b0
  clear hb1 hB b0 HE
  go_wp2_with fail
  clear q1
  go_loopw [3, 4] (fun s3 s4 wr => ∃ k : Nat, k ≤ nL ∧ s4 = .int .i64 k ∧ s3 = .int .i64 0 ∧ Hid (checkLoads (j.Loads.drop k) = checkLoads j.Loads) ∧ Hid (Below w1.heap.size w1 wr)) (fun _ s4 _ => nL - (intOf s4).toNat)
  case atStart => exact ⟨0, Nat.zero_le _, rfl, rfl, rfl, Below.refl _ _⟩
  case round =>
    obtain ⟨k, hk, rfl, rfl, hr, BW⟩ := hrel
    have BB := Lib.hid (HB1.out.trans (BW.out.mono HB1.out.size))
    obtain ⟨_, q1, q2, q3, q4⟩ := job_box (Hb0.out.under BW.out)
    by_cases hlt : k < nL
    · obtain ⟨b, off, AI, AO, cI, cO, rfl, hb, hc⟩ := HL.out (by rw [← HNL.out]; omega)
      obtain ⟨c0, c1, hk0, hk1⟩ := hc k (by rw [← HNL.out]; omega)
      have HC0 := Lib.hid c0
      have HC1 := Lib.hid c1
      have d0 := oldCell BB.out hb c0
      clear hc c0 c1
      have hs := Lib.hid (checkLoads_step j.Loads k (by rw [← HNL.out]; omega))
      have hout : ∀ e, checkLoads j.Loads = e → e ≠ 0 → e = res := fun e h1 h2 => by rw [← HR.out, h1, if_pos h2]
      have HO := Lib.hid hout
      clear hout
      have HLI := Lib.hid (fun W (hW : Below w.heap.size w W) => ref05_line (.agg #[.slice (AI k) (ld j.Loads k).In.length (cI k)]) (ld j.Loads k).In W ⟨AI k, cI k, rfl, hk0.up hW hW.size⟩)
      have HLO := Lib.hid (fun W (hW : Below w.heap.size w W) => ref05_line (.agg #[.slice (AO k) (ld j.Loads k).Out.length (cO k)]) (ld j.Loads k).Out W ⟨AO k, cO k, rfl, hk1.up hW hW.size⟩)
      clear hk0 hk1 q2 q3 q4
      generalize (ld j.Loads k).In.length = n0 at *
      generalize (ld j.Loads k).Out.length = n1 at *
      by_cases hz1 : okLine (ld j.Loads k).In = 0
      · rw [hz1] at HLI
        go_wp2_with fail
        refine (HLI.out wr BB.out).mono ?_
        rintro e w2 ⟨rfl, hb2⟩
        have BB2 := Lib.hid (BB.out.trans (hb2.mono BB.out.size))
        have BW2 := Lib.hid (BW.out.trans (hb2.mono BW.out.size))
        obtain ⟨_, q1', _, _, _⟩ := job_box (Hb0.out.under BW2.out)
        have d1 := oldCell BB2.out hb HC1.out
        clear hb2 q1 d0
        by_cases hz2 : okLine (ld j.Loads k).Out = 0
        · rw [hz2] at HLO
          go_wp2_with fail
          refine (HLO.out w2 BB2.out).mono ?_
          rintro e w3 ⟨rfl, hb3⟩
          have BW3 := Lib.hid (BW2.out.trans (hb3.mono BW2.out.size))
          clear hb3
          go_wp2_with fail
          go_roundw
          case rel => exact ⟨k + 1, hlt, by go_num, rfl, by unfold Hid; rw [← hr.out, hs.out, if_neg (by simpa using hz1), if_neg (by simpa using hz2)], BW3⟩
          case measure => simp [intOf]; omega
        · have hx := Lib.hid (HO.out (okLine (ld j.Loads k).Out) (by rw [← hr.out, hs.out, if_neg (by simpa using hz1), if_pos hz2]) hz2)
          have hz' : (okLine (ld j.Loads k).Out != 0) = true := by simpa using hz2
          clear hz2
          generalize okLine (ld j.Loads k).Out = ee at *
          go_wp2_with fail
          refine (HLO.out w2 BB2.out).mono ?_
          rintro e w3 ⟨rfl, hb3⟩
          go_wp2_with fail
          go_ret
          exact ⟨ret_int hx.out, BB2.out.trans (hb3.mono BB2.out.size)⟩
      · have hx := Lib.hid (HO.out (okLine (ld j.Loads k).In) (by rw [← hr.out, hs.out, if_pos hz1]) hz1)
        have hz' : (okLine (ld j.Loads k).In != 0) = true := by simpa using hz1
        clear hz1
        generalize okLine (ld j.Loads k).In = ee at *
        go_wp2_with fail
        refine (HLI.out wr BB.out).mono ?_
        rintro e w2 ⟨rfl, hb2⟩
        go_wp2_with fail
        go_ret
        exact ⟨ret_int hx.out, BB.out.trans (hb2.mono BB.out.size)⟩
    · have hfin : Hid (checkRest j.Grades j.Factor j.Over = res) := by
        have h0 : checkLoads j.Loads = 0 := by rw [← hr.out, List.drop_eq_nil_of_le (by rw [← HNL.out]; omega)]; rfl
        unfold Hid
        rw [← HR.out, h0]
        rfl
      by_cases hg0 : nG = 0
      · have hx := Lib.hid (show checkRest j.Grades j.Factor j.Over = 6 by rw [checkRest, if_pos (by rw [← HNG.out]; exact hg0)])
        have hz : ((nG : Int) == 0) = true := beq_iff_eq.2 (by omega)
        clear hg0
        go_wp2_with fail
        go_ret
        exact ⟨ret_int (by rw [← hfin.out, hx.out]), BB.out⟩
      have hz : ((nG : Int) == 0) = false := beq_eq_false_iff_ne.2 (by omega)
      by_cases hg6 : 6 < nG
      · have hx := Lib.hid (show checkRest j.Grades j.Factor j.Over = 8 by rw [checkRest, if_neg (by rw [← HNG.out]; exact hg0), if_pos (by rw [← HNG.out]; exact hg6)])
        have hzz : decide ((6 : Int) < (nG : Int)) = true := decide_eq_true (by omega)
        go_wp2_with fail
        go_ret
        exact ⟨ret_int (by rw [← hfin.out, hx.out]), BB.out⟩
      have hzz : decide ((6 : Int) < (nG : Int)) = false := decide_eq_false (by omega)
      have hra := rest_any (gs := j.Grades) (f := j.Factor) (o := j.Over) (by rw [← HNG.out]; exact hg0) (by rw [← HNG.out]; exact hg6)
      rw [hra] at hfin
      clear hra
      have hng0 : 0 < nG := by omega
      clear hg0
      obtain ⟨b, off, rfl, hb, hc⟩ := HG.out (by rw [← HNG.out]; omega)
      have HGC := Lib.hid hc
      clear hc
      go_wp2_with fail
      clear q1 q2 q3 q4 hz hzz
      obtain ⟨wo, rfl⟩ : ∃ wo : World, wo = wr := ⟨_, rfl⟩
      go_loopw [5] (fun s5 wr => ∃ i : Nat, i ≤ nG ∧ s5 = .int .i64 i ∧ Hid ((j.Grades.drop i).any (fun g => !fairGrade g) = j.Grades.any (fun g => !fairGrade g)) ∧ Hid (Below w1.heap.size w1 wr)) (fun s5 _ => nG - (intOf s5).toNat)
      case atStart => exact ⟨0, Nat.zero_le _, rfl, rfl, BW⟩
      case round =>
        obtain ⟨i, hi, rfl, hq, BV⟩ := hrel
        have BB2 := Lib.hid (HB1.out.trans (BV.out.mono HB1.out.size))
        obtain ⟨_, _, q2, q3, q4⟩ := job_box (Hb0.out.under BV.out)
        by_cases hlt2 : i < nG
        · obtain ⟨c0, c1, c2, c3, c4⟩ := HGC.out i (by rw [← HNG.out]; exact hlt2)
          have e0 := oldCell BB2.out hb c0
          have e1 := oldCell BB2.out hb c1
          have e2 := oldCell BB2.out hb c2
          have e3 := oldCell BB2.out hb c3
          have e4 := oldCell BB2.out hb c4
          clear c0 c1 c2 c3 c4
          have hst := Lib.hid (any_grade (fun g => !fairGrade g) j.Grades i (by rw [← HNG.out]; exact hlt2))
          have HGR := Lib.hid (ref05_grade (gd j.Grades i) wr)
          unfold gradeV at HGR
          cases hfg : fairGrade (gd j.Grades i)
          · rw [hfg] at HGR hst
            have hx : Hid (res = 2) := by
              unfold Hid
              rw [← hfin.out, ← hq.out, hst.out]
              rfl
            go_wp2_with fail
            refine HGR.out.mono ?_
            rintro e w2 ⟨rfl, hb2⟩
            go_wp2_with fail
            go_ret
            exact ⟨ret_int hx.out.symm, BB2.out.trans (hb2.mono BB2.out.size)⟩
          · rw [hfg] at HGR hst
            go_wp2_with fail
            refine HGR.out.mono ?_
            rintro e w2 ⟨rfl, hb2⟩
            have BV2 := Lib.hid (BV.out.trans (hb2.mono BV.out.size))
            clear hb2
            go_wp2_with fail
            go_roundw
            case rel => exact ⟨i + 1, hlt2, by go_num, by unfold Hid; rw [← hq.out, hst.out]; rfl, BV2⟩
            case measure => simp [intOf]; omega
        · have hany : j.Grades.any (fun g => !fairGrade g) = false := by
            rw [← hq.out, List.drop_eq_nil_of_le (by rw [← HNG.out]; omega)]
            rfl
          rw [hany] at hfin
          clear hany hq
          have hfin2 : Hid ((if j.Factor < 1000 ∨ 3000 < j.Factor ∨ j.Over < 0 ∨ 1099511627776 < j.Over then (2 : Int) else 0) = res) := hfin.out
          clear hfin
          have hcs : j.Factor < 1000 ∨ (1000 ≤ j.Factor ∧ 3000 < j.Factor) ∨ (1000 ≤ j.Factor ∧ j.Factor ≤ 3000 ∧ j.Over < 0) ∨ (1000 ≤ j.Factor ∧ j.Factor ≤ 3000 ∧ 0 ≤ j.Over ∧ 1099511627776 < j.Over) ∨ (1000 ≤ j.Factor ∧ j.Factor ≤ 3000 ∧ 0 ≤ j.Over ∧ j.Over ≤ 1099511627776) := by omega
          generalize j.Factor = fa at *
          generalize j.Over = ov at *
          rcases hcs with h1 | ⟨h1, h2⟩ | ⟨h1, h2, h3⟩ | ⟨h1, h2, h3, h4⟩ | ⟨h1, h2, h3, h4⟩
          · have f1 : decide (fa < 1000) = true := decide_eq_true h1
            rw [if_pos (by omega)] at hfin2
            go_wp2_with fail
            go_ret
            exact ⟨ret_int hfin2.out, BB2.out⟩
          · have f1 : decide (fa < 1000) = false := decide_eq_false (by omega)
            have f2 : decide (3000 < fa) = true := decide_eq_true h2
            rw [if_pos (by omega)] at hfin2
            go_wp2_with fail
            go_ret
            exact ⟨ret_int hfin2.out, BB2.out⟩
          · have f1 : decide (fa < 1000) = false := decide_eq_false (by omega)
            have f2 : decide (3000 < fa) = false := decide_eq_false (by omega)
            have f3 : decide (ov < 0) = true := decide_eq_true h3
            rw [if_pos (by omega)] at hfin2
            go_wp2_with fail
            go_ret
            exact ⟨ret_int hfin2.out, BB2.out⟩
          · have f1 : decide (fa < 1000) = false := decide_eq_false (by omega)
            have f2 : decide (3000 < fa) = false := decide_eq_false (by omega)
            have f3 : decide (ov < 0) = false := decide_eq_false (by omega)
            have f4 : decide (1099511627776 < ov) = true := decide_eq_true h4
            rw [if_pos (by omega)] at hfin2
            go_wp2_with fail
            go_ret
            exact ⟨ret_int hfin2.out, BB2.out⟩
          · have f1 : decide (fa < 1000) = false := decide_eq_false (by omega)
            have f2 : decide (3000 < fa) = false := decide_eq_false (by omega)
            have f3 : decide (ov < 0) = false := decide_eq_false (by omega)
            have f4 : decide (1099511627776 < ov) = false := decide_eq_false (by omega)
            rw [if_neg (by omega)] at hfin2
            go_wp2_with fail
            go_ret
            exact ⟨ret_int hfin2.out, BB2.out⟩

set_option maxHeartbeats 1000000 in
theorem ref05_Check (j : Job) (v0 : Value) (w : World) (hv : JobV w w.heap.size v0 j) :
    Calls Try.prog 42 #[v0] w fun e w' => e = .returned (.int .i64 (checkJob j)) ∧ Below w.heap.size w w' := by
  obtain ⟨AE, cE, AL, cL, AG, cG, rfl, hcap, hE, hL, hG⟩ := hv
  have hce := fun W (hW : Below w.heap.size w W) => ref05_ends j.Ends AE cE W (hE.up hW hW.size)
  by_cases h1 : checkEnds j.Ends = 0
  · rw [h1] at hce
    by_cases h6 : j.Loads.length ≤ 6
    · rw [checkJob_eq j h1 h6]
      exact ref05_Check_core j AE AL AG _ _ _ cE cL cG w rfl rfl h6 hce hL hG
    · have hB := (Below.refl w.heap.size w).alloc (Nat.le_refl _) (.cells #[.slice AE j.Ends.length cE, .slice AL j.Loads.length cL, .slice AG j.Grades.length cG, .int .i64 j.Factor, .int .i64 j.Over] 36)
      have HE := Lib.hid (hce _ hB)
      have hs := Lib.hid (show checkJob j = 8 by unfold checkJob; rw [if_neg (by simpa using h1), if_pos (by omega)])
      have hz6 : decide ((6 : Int) < (j.Loads.length : Int)) = true := decide_eq_true (by omega)
      clear hce hE hL hG h1 hcap
      generalize j.Ends.length = nE at *
      generalize j.Loads.length = nL at *
      generalize j.Grades.length = nG at *
      go_enter Try.func42, Try.ntmps42
      go_wp2_with fail
      refine HE.out.mono ?_
      rintro e w1 ⟨rfl, hb1⟩
      obtain ⟨_, q1, _, _, _⟩ := job_box ((Box.new w 36 #[.slice AE nE cE, .slice AL nL cL, .slice AG nG cG, .int .i64 j.Factor, .int .i64 j.Over] rfl).under hb1)
      go_wp2_with fail
      go_ret
      exact ⟨ret_int (by rw [hs.out]), hB.trans (hb1.mono hB.size)⟩
  · have hB := (Below.refl w.heap.size w).alloc (Nat.le_refl _) (.cells #[.slice AE j.Ends.length cE, .slice AL j.Loads.length cL, .slice AG j.Grades.length cG, .int .i64 j.Factor, .int .i64 j.Over] 36)
    have HE := Lib.hid (hce _ hB)
    have hs := Lib.hid (show checkJob j = checkEnds j.Ends by unfold checkJob; rw [if_pos (by simpa using h1)])
    have hz : (checkEnds j.Ends != 0) = true := by simpa using h1
    clear hce hE hL hG h1 hcap
    generalize j.Ends.length = nE at *
    generalize j.Loads.length = nL at *
    generalize j.Grades.length = nG at *
    go_enter Try.func42, Try.ntmps42
    go_wp2_with fail
    refine HE.out.mono ?_
    rintro e w1 ⟨rfl, hb1⟩
    generalize checkEnds j.Ends = ee at *
    go_wp2_with fail
    go_ret
    exact ⟨ret_int (by rw [hs.out]), hB.trans (hb1.mono hB.size)⟩

end Go.Proofs.Ytannipfohicpmaa

/- Walks of the reference of layer 5: choices, their cost. -/
namespace Go.Proofs.Ytannipfohicpmaa
open Go.RowKit Go.Shelf Mpl

set_option maxHeartbeats 1000000 in
theorem ref05_begin (j : Job) (v0 : Value) (k : Nat) (w : World) (hv : JobV w w.heap.size v0 j) (hk : k < j.Ends.length) (hm : j.Ends.length ≤ 1000) :
    Calls Try.prog 54 #[v0, .int .i64 k] w fun e w' => e = .returned (.int .i64 (top j k)) ∧ Below w.heap.size w w' := by
  obtain ⟨AE, cE, AL, cL, AG, cG, rfl, hcap, hE, hL, hG⟩ := hv
  obtain ⟨b, off, rfl, hb, hc⟩ := hE (by omega)
  have ht0 : Hid (k = 0 → top j k = 0) := fun h => by simp [top, topOf, h]
  have ht1 : Hid (0 < k → top j k = pick j.Ends (k - 1)) := fun h => by simp [top, topOf, show k ≠ 0 by omega]
  by_cases h0 : k = 0
  · have hz : ((k : Int) == 0) = true := beq_iff_eq.2 (by omega)
    have hs := Lib.hid (ht0.out h0)
    clear hE hL hG hc ht0 ht1 h0
    generalize j.Ends.length = nE at *
    generalize j.Loads.length = nL at *
    generalize j.Grades.length = nG at *
    go_enter Try.func54, Try.ntmps54
    go_wp2_with fail
    go_ret
    exact ⟨ret_int hs.out.symm, (by repeat (first | exact Below.refl _ _ | assumption | refine Below.setCell ?_ (by first | (simp; done) | (simp; omega)) _ | refine belowDrewN ?_ _ | refine Below.drew ?_ | refine Below.alloc ?_ (by first | (simp; done) | (simp; omega)) _))⟩
  · have hz : ((k : Int) == 0) = false := beq_eq_false_iff_ne.2 (by omega)
    have hs := Lib.hid (ht1.out (by omega))
    have c0 := hc (k - 1) (by omega)
    clear hE hL hG hc ht0 ht1
    have hk1 : 1 ≤ k := by omega
    clear h0
    generalize pick j.Ends (k - 1) = z at *
    generalize j.Ends.length = nE at *
    generalize j.Loads.length = nL at *
    generalize j.Grades.length = nG at *
    go_enter Try.func54, Try.ntmps54
    go_wp2_with fail
    go_ret
    exact ⟨ret_int hs.out.symm, (by repeat (first | exact Below.refl _ _ | assumption | refine Below.setCell ?_ (by first | (simp; done) | (simp; omega)) _ | refine belowDrewN ?_ _ | refine Below.drew ?_ | refine Below.alloc ?_ (by first | (simp; done) | (simp; omega)) _))⟩

set_option maxHeartbeats 4000000 in
set_option maxRecDepth 100000 in
theorem ref05_fair (j : Job) (l : List Int) (v0 : Value) (A : Option Addr) (c : Nat) (w : World) (hv : JobV w w.heap.size v0 j) (hl : Ints w w.heap.size A l) (hnl : l.length ≤ 1000) :
    Calls Try.prog 51 #[v0, .slice A l.length c] w fun e w' => e = .returned (.bool (isChoice j l)) ∧ Below w.heap.size w w' := by
  have HV := Lib.hid hv
  obtain ⟨AE, cE, AL, cL, AG, cG, rfl, _, _, _, _⟩ := hv
  have HCH := Lib.hid (fun W (hW : Below w.heap.size w W) => ref05_Check j _ W (HV.out.below hW))
  have HL := Lib.hid hl
  have hI : Hid (isChoice j l = (decide (checkJob j = 0) && decide (l.length = j.Ends.length) && !(l.any fun g => decide (g < 0 ∨ (j.Grades.length : Int) ≤ g)))) := rfl
  have HAP := Lib.hid (fun q => any_pick q l)
  clear hl
  generalize checkJob j = r at *
  generalize isChoice j l = res at *
  generalize j.Ends.length = nE at *
  generalize j.Loads.length = nL at *
  generalize j.Grades.length = nG at *
  generalize hn : l.length = nl at *
  have HN := Lib.hid hn
  clear hn
  have HB := Lib.hid ((Below.refl w.heap.size w).alloc (Nat.le_refl _) (.cells #[.slice AE nE cE, .slice AL nL cL, .slice AG nG cG, .int .i64 j.Factor, .int .i64 j.Over] 36))
  have B0 := Lib.hid (Box.new w 36 #[.slice AE nE cE, .slice AL nL cL, .slice AG nG cG, .int .i64 j.Factor, .int .i64 j.Over] rfl)
  by_cases h1 : r = 0
  case neg =>
    have h1' : (r != 0) = true := by simpa using h1
    go_enter Try.func51, Try.ntmps51
    go_wp2_with fail
    refine (HCH.out _ HB.out).mono ?_
    rintro e w1 ⟨rfl, hb1⟩
    go_wp2_with fail
    go_ret
    exact ⟨ret_bool (by rw [hI.out]; simp [h1]), HB.out.trans (hb1.mono HB.out.size)⟩
  subst h1
  by_cases h2 : nl = nE
  case neg =>
    have h2' : ((nl : Int) != (nE : Int)) = true := by simp; omega
    have h2'' : (nl != nE) = true := by simpa using h2
    go_enter Try.func51, Try.ntmps51
    go_wp2_with fail
    refine (HCH.out _ HB.out).mono ?_
    rintro e w1 ⟨rfl, hb1⟩
    obtain ⟨q0, _, _, _, _⟩ := job_box (B0.out.under hb1)
    go_wp2_with fail
    go_ret
    exact ⟨ret_bool (by rw [hI.out]; simp [h2]), HB.out.trans (hb1.mono HB.out.size)⟩
  subst h2
  have h2' : ((nl : Int) != (nl : Int)) = false := by simp
  have hI2 : Hid (res = !(l.any fun g => decide (g < 0 ∨ (nG : Int) ≤ g))) := by unfold Hid; rw [hI.out]; simp
  clear hI
  go_enter Try.func51, Try.ntmps51
  go_wp2_with fail
  refine (HCH.out _ HB.out).mono ?_
  rintro e w1 ⟨rfl, hb1⟩
  have B1 := Lib.hid (B0.out.under hb1)
  have HB1 := Lib.hid (HB.out.trans (hb1.mono HB.out.size))
  obtain ⟨q0, _, _, _, _⟩ := job_box B1.out
  clear hb1
  go_wp2_with fail
  clear q0 h2'
  go_loopw [5] (fun s5 wr => ∃ k : Nat, k ≤ nl ∧ s5 = .int .i64 k ∧ Hid ((l.drop k).any (fun g => decide (g < 0 ∨ (nG : Int) ≤ g)) = l.any (fun g => decide (g < 0 ∨ (nG : Int) ≤ g))) ∧ Hid (Below w1.heap.size w1 wr)) (fun s5 _ => nl - (intOf s5).toNat)
  case atStart => exact ⟨0, Nat.zero_le _, rfl, rfl, Below.refl _ _⟩
  case round =>
    obtain ⟨k, hk, rfl, hr, BW⟩ := hrel
    have BB := Lib.hid (HB1.out.trans (BW.out.mono HB1.out.size))
    by_cases hlt : k < nl
    · obtain ⟨b, off, rfl, hb, hc⟩ := HL.out (by rw [HN.out]; omega)
      have e0 := oldCell BB.out hb (hc k (by rw [HN.out]; exact hlt))
      obtain ⟨_, _, q2, _, _⟩ := job_box (B1.out.under BW.out)
      have hs := Lib.hid (HAP.out (fun g => decide (g < 0 ∨ (nG : Int) ≤ g)) k hlt)
      clear hc
      generalize pick l k = z at *
      by_cases g1 : z < 0
      · have d1 : decide (z < 0) = true := decide_eq_true g1
        have hf : Hid (res = false) := by unfold Hid; rw [hI2.out, ← hr.out, hs.out, decide_eq_true (by omega)]; rfl
        go_wp2_with fail
        go_quiet (fail)
        go_wp2_with fail
        go_ret
        exact ⟨ret_bool hf.out.symm, belowDrewN BB.out _⟩
      have d1 : decide (z < 0) = false := decide_eq_false g1
      by_cases g2 : (nG : Int) ≤ z
      · have d2 : decide ((nG : Int) ≤ z) = true := decide_eq_true g2
        have hf : Hid (res = false) := by unfold Hid; rw [hI2.out, ← hr.out, hs.out, decide_eq_true (by omega)]; rfl
        go_wp2_with fail
        go_quiet (fail)
        go_wp2_with fail
        go_ret
        exact ⟨ret_bool hf.out.symm, belowDrewN BB.out _⟩
      have d2 : decide ((nG : Int) ≤ z) = false := decide_eq_false g2
      have hnx : Hid ((l.drop (k + 1)).any (fun g => decide (g < 0 ∨ (nG : Int) ≤ g)) = l.any (fun g => decide (g < 0 ∨ (nG : Int) ≤ g))) := by unfold Hid; rw [← hr.out, hs.out, decide_eq_false (by omega), Bool.false_or]
      go_wp2_with fail
      go_quiet (fail)
      go_wp2_with fail
      go_roundw
      case rel => exact ⟨k + 1, hlt, by go_num, hnx, belowDrewN BW.out _⟩
      case measure => simp [intOf]; omega
    · go_wp2_with fail
      go_ret
      refine ⟨ret_bool ?_, BB.out⟩
      rw [hI2.out, ← hr.out, List.drop_eq_nil_of_le (by rw [HN.out]; omega)]
      rfl

end Go.Proofs.Ytannipfohicpmaa

/- Walks of the reference of layer 5: the excess of one line over another, in a part. -/
namespace Go.Proofs.Ytannipfohicpmaa
open Go.RowKit Go.Shelf Mpl

theorem run_field_lo (x y : Int) (w : World) : (Instr.field 66 (.agg #[.int .i64 x, .int .i64 y]) 0).run Try.prog w = .ok (.int .i64 x) w := by kernel_rfl
theorem run_field_hi (x y : Int) (w : World) : (Instr.field 66 (.agg #[.int .i64 x, .int .i64 y]) 1).run Try.prog w = .ok (.int .i64 y) w := by kernel_rfl

set_option maxHeartbeats 8000000 in
set_option maxRecDepth 100000 in
theorem ref05_excess_walk (la lb : List Knot) (lo hi : Int) (A0 A1 : Option Addr) (c0 c1 : Nat) (w : World) (hA : Knots w w.heap.size A0 la) (hB : Knots w w.heap.size A1 lb) (h0 : okLine la = 0) (h1 : okLine lb = 0) (hlo : 0 ≤ lo) (hle : lo ≤ hi) (hhi : hi ≤ 1048576) :
    Calls Try.prog 47 #[.agg #[.slice A0 la.length c0], .agg #[.slice A1 lb.length c1], .int .i64 lo, .int .i64 hi] w fun e w' =>
      e = .returned (.int .i64 (refold (excessAt la lb) lo hi ([lo, hi] ++ la.map Knot.At ++ lb.map Knot.At) (excessAt la lb lo))) ∧ Below w.heap.size w w' := by
  have ga := (checkLine_good h0).1
  have gb := (checkLine_good h1).1
  have hna := ga.few
  have hnb := gb.few
  obtain ⟨ba, oa, rfl, hba, hca⟩ := hA.out ga.pos
  obtain ⟨bb, ob, rfl, hbb, hcb⟩ := hB.out gb.pos
  have HCA := Lib.hid hca
  have HCB := Lib.hid hcb
  have HLA := Lib.hid (fun W (hW : Below w.heap.size w W) => ref05_line _ la W ((show LineV w w.heap.size (.agg #[.slice (some ⟨ba, oa, none⟩) la.length c0]) la from ⟨_, _, rfl, hA⟩).below hW))
  have HLB := Lib.hid (fun W (hW : Below w.heap.size w W) => ref05_line _ lb W ((show LineV w w.heap.size (.agg #[.slice (some ⟨bb, ob, none⟩) lb.length c1]) lb from ⟨_, _, rfl, hB⟩).below hW))
  have HTA := Lib.hid (fun W z (hW : Below w.heap.size w W) => ref02_At la _ z W ((show LineV w w.heap.size (.agg #[.slice (some ⟨ba, oa, none⟩) la.length c0]) la from ⟨_, _, rfl, hA⟩).below hW))
  have HTB := Lib.hid (fun W z (hW : Below w.heap.size w W) => ref02_At lb _ z W ((show LineV w w.heap.size (.agg #[.slice (some ⟨bb, ob, none⟩) lb.length c1]) lb from ⟨_, _, rfl, hB⟩).below hW))
  rw [h0] at HLA
  rw [h1] at HLB
  have hra := Lib.hid (at_bounds h0)
  have hrb := Lib.hid (at_bounds h1)
  have hex : Hid (∀ z, excessAt la lb z = (At la z).Hi - (At lb z).Lo) := fun _ => rfl
  obtain ⟨i0, hi0, hz0, hz1, hz2⟩ := info_parts info_int64
  generalize hres : refold (excessAt la lb) lo hi ([lo, hi] ++ la.map Knot.At ++ lb.map Knot.At) (excessAt la lb lo) = res
  have HR := Lib.hid hres
  have HSA := Lib.hid (take_map_step la)
  have HSB := Lib.hid (take_map_step lb)
  have HEA := Lib.hid (show (la.take la.length).map Knot.At = la.map Knot.At by rw [List.take_length])
  have HEB := Lib.hid (show (lb.take lb.length).map Knot.At = lb.map Knot.At by rw [List.take_length])
  have HZA := Lib.hid (show ∀ k, ((la.take k).map Knot.At).length ≤ la.length from fun k => by simp; omega)
  have HZB := Lib.hid (show ∀ k, ((lb.take k).map Knot.At).length ≤ lb.length from fun k => by simp; omega)
  have HMA := Lib.hid (show (la.map Knot.At).length = la.length by simp)
  have HMB := Lib.hid (show (lb.map Knot.At).length = lb.length by simp)
  clear hres hA hB h0 h1 ga gb hca hcb
  generalize At la = fa at *
  generalize At lb = fb at *
  generalize excessAt la lb = ex at *
  generalize la.length = na at *
  generalize lb.length = nb at *
  have d1 : decide (lo < 0) = false := decide_eq_false (by omega)
  have d2 : decide (hi < lo) = false := decide_eq_false (by omega)
  have d3 : decide (1048576 < hi) = false := decide_eq_false (by omega)
  obtain ⟨w0, hw0⟩ : ∃ w0, ((w.alloc (.cells #[.slice (some ⟨ba, oa, none⟩) na c0] 24)).alloc (.cells #[.slice (some ⟨bb, ob, none⟩) nb c1] 24)) = w0 := ⟨_, rfl⟩
  have b0 : Box w0 w.heap.size 24 #[.slice (some ⟨ba, oa, none⟩) na c0] := by rw [← hw0]; exact (Box.new w _ _ rfl).alloc _
  have b1 : Box w0 (w.heap.size + 1) 24 #[.slice (some ⟨bb, ob, none⟩) nb c1] := by rw [← hw0]; exact Box.new _ _ _ (by simp)
  have hB0 : Below w.heap.size w w0 := by rw [← hw0]; exact (by repeat (first | exact Below.refl _ _ | assumption | refine Below.setCell ?_ (by first | (simp; done) | (simp; omega)) _ | refine belowDrewN ?_ _ | refine Below.drew ?_ | refine Below.alloc ?_ (by first | (simp; done) | (simp; omega)) _))
  have HW0 := Lib.hid hw0
  clear hw0
  go_enter Try.func47, Try.ntmps47
  go_wp2_with fail
  rw [HW0.out]
  refine (HLA.out _ hB0).mono ?_
  rintro e w1 ⟨rfl, hb1⟩
  have hB1 := hB0.trans (hb1.mono hB0.size)
  replace b0 := b0.under hb1
  replace b1 := b1.under hb1
  have q1 := b1.cell 0
  simp only [List.getElem?_toArray, List.getElem?_cons_zero] at q1
  clear hb1
  go_wp2_with fail
  refine (HLB.out _ hB1).mono ?_
  rintro e w2 ⟨rfl, hb2⟩
  have hB2 := hB1.trans (hb2.mono hB1.size)
  replace b0 := b0.under hb2
  replace b1 := b1.under hb2
  clear hb2 q1 HLA HLB HW0 hB0 hB1
  go_wp2_with fail
  have HB2 := Lib.hid hB2
  have Hb0 := Lib.hid b0
  have Hb1 := Lib.hid b1
  have hs2 := hB2.size
  have hl1 := b1.lt
  clear hB2 b0 b1
  go_loopw [9, 10] (fun s9 s10 wr => ∃ k : Nat, k ≤ na ∧ s10 = .int .i64 k ∧ Hid (wr.ownsRow w2.heap.size 2 1 s9 ([lo, hi] ++ (la.take k).map Knot.At).length (([lo, hi] ++ (la.take k).map Knot.At).map (Value.int .i64))) ∧ Hid (Below w2.heap.size w2 wr)) (fun _ s10 _ => na - (intOf s10).toNat)
  case atStart => exact ⟨0, Nat.zero_le _, rfl, World.ownsRow_lit w2 #[.int .i64 lo, .int .i64 hi] 2 (Nat.le_refl _) (by unfold maxLen; omega) rfl, (Below.refl _ _).alloc (Nat.le_refl _) _⟩
  case round =>
    obtain ⟨k, hk, rfl, hown, BW⟩ := hrel
    have BB := Lib.hid (HB2.out.trans (BW.out.mono HB2.out.size))
    have hsw := BW.out.size
    have q0 := (Hb0.out.under BW.out).cell 0
    simp only [List.getElem?_toArray, List.getElem?_cons_zero] at q0
    by_cases hlt : k < na
    · have f0 := oldCell BB.out hba (HCA.out k hlt).1
      have hsa := Lib.hid (HSA.out k hlt)
      have hzl := HZA.out k
      have hpl : ([lo, hi] ++ (la.take k).map Knot.At).length ≤ na + 2 := by simp only [List.length_append, List.length_cons, List.length_nil]; omega
      generalize hxs : [lo, hi] ++ (la.take k).map Knot.At = xs at *
      have HXS := Lib.hid hxs
      clear hxs
      go_wp2_with (at_builtin; refine wpList_append_own _ rfl _ _ 32 rfl w2.heap.size 2 i0 (.int .i64 0) 1 8 Try.underlying32 hi0 hz0 hz1 hz2 rfl (by decide) _ _ _ rfl (hown.out.alloc _) ⟨wr.heap.size, 0, none⟩ 1 1 [.int .i64 (kn la k).At] rfl rfl ?_ ?_ ?_ ?_ ?_ ?_)
      · exact cells_new wr [.int .i64 (kn la k).At] 2
      · simp [Value.oneCell']
      · unfold maxLen; omega
      · omega
      · simp; omega
      intro v' w3 hown3 hg3 _
      have HO3 := Lib.hid hown3
      have HB3 := Lib.hid (below_grown (BW.out.alloc hsw _) (hown.out.alloc _) hg3 (by simp; omega))
      clear hown3 hg3 q0 f0
      go_wp2_with fail
      go_roundw
      case rel => exact ⟨k + 1, hlt, by go_num, by unfold Hid; rw [hsa.out, ← List.append_assoc, HXS.out]; simpa using HO3.out, HB3.out⟩
      case measure => simp [intOf]; omega
    · obtain rfl : k = na := by omega
      rw [HEA.out] at hown
      clear hlt hk HCA HSA HEA HZA
      have hlenA : ([lo, hi] ++ la.map Knot.At).length = k + 2 := by simp only [List.length_append, List.length_cons, List.length_nil, HMA.out]; omega
      generalize hxa : [lo, hi] ++ la.map Knot.At = xa at *
      have HLX := Lib.hid hlenA
      clear hlenA hxa
      go_wp2_with fail
      clear q0
      obtain ⟨wo, rfl⟩ : ∃ wo : World, wo = wr := ⟨_, rfl⟩
      go_loopw [9, 11] (fun s9 s11 wr => ∃ i : Nat, i ≤ nb ∧ s11 = .int .i64 i ∧ Hid (wr.ownsRow w2.heap.size 2 1 s9 (xa ++ (lb.take i).map Knot.At).length ((xa ++ (lb.take i).map Knot.At).map (Value.int .i64))) ∧ Hid (Below w2.heap.size w2 wr)) (fun _ s11 _ => nb - (intOf s11).toNat)
      case atStart => exact ⟨0, Nat.zero_le _, rfl, by unfold Hid; simpa using hown.out, BW⟩
      case round =>
        obtain ⟨i, hi', rfl, hown2, BW2⟩ := hrel
        have BB2 := Lib.hid (HB2.out.trans (BW2.out.mono HB2.out.size))
        have hsw2 := BW2.out.size
        have q1 := (Hb1.out.under BW2.out).cell 0
        simp only [List.getElem?_toArray, List.getElem?_cons_zero] at q1
        by_cases hlt : i < nb
        · have f0 := oldCell BB2.out hbb (HCB.out i hlt).1
          have hsa := Lib.hid (HSB.out i hlt)
          have hzl := HZB.out i
          have hpl : (xa ++ (lb.take i).map Knot.At).length ≤ k + 2 + nb := by rw [List.length_append, HLX.out]; omega
          generalize hxs : xa ++ (lb.take i).map Knot.At = xs at *
          have HXS := Lib.hid hxs
          clear hxs
          go_wp2_with (at_builtin; refine wpList_append_own _ rfl _ _ 32 rfl w2.heap.size 2 i0 (.int .i64 0) 1 8 Try.underlying32 hi0 hz0 hz1 hz2 rfl (by decide) _ _ _ rfl (hown2.out.alloc _) ⟨wr.heap.size, 0, none⟩ 1 1 [.int .i64 (kn lb i).At] rfl rfl ?_ ?_ ?_ ?_ ?_ ?_)
          · exact cells_new wr [.int .i64 (kn lb i).At] 2
          · simp [Value.oneCell']
          · unfold maxLen; omega
          · omega
          · simp; omega
          intro v' w3 hown3 hg3 _
          have HO3 := Lib.hid hown3
          have HB3 := Lib.hid (below_grown (BW2.out.alloc hsw2 _) (hown2.out.alloc _) hg3 (by simp; omega))
          clear hown3 hg3 q1 f0
          go_wp2_with fail
          go_roundw
          case rel => exact ⟨i + 1, hlt, by go_num, by unfold Hid; rw [hsa.out, ← List.append_assoc, HXS.out]; simpa using HO3.out, HB3.out⟩
          case measure => simp [intOf]; omega
        · obtain rfl : i = nb := by omega
          rw [HEB.out] at hown2
          clear hlt hi' HCB HSB HEB HZB
          have hlenB : (xa ++ lb.map Knot.At).length = k + 2 + i := by rw [List.length_append, HLX.out, HMB.out]
          generalize hxb : xa ++ lb.map Knot.At = xb at *
          have HLB := Lib.hid hlenB
          have hm50 : k + 2 + i ≤ 100 := by omega
          clear hxb hlenB
          obtain ⟨g, cap, rfl, _, hg1, hg2, hcell⟩ := own_out hown2.out (by rw [HLB.out]; omega)
          have HCL := Lib.hid (show ∀ t, t < k + 2 + i → wr.cell? ⟨g, t, none⟩ = some (.int .i64 (pick xb t)) from fun t ht => hcell t _ (by rw [← HLB.out] at ht; simp [pick, ht]))
          rw [HLB.out]
          clear hcell hown2
          generalize hm : k + 2 + i = m at *
          clear hm
          go_wp2_with fail
          have a0 := (Hb0.out.under BW2.out)
          have a1 := (Hb1.out.under BW2.out)
          have HA0 := Lib.hid a0
          have HA1 := Lib.hid a1
          have f0 := a0.cell 0
          have f1 := a1.cell 0
          simp only [List.getElem?_toArray, List.getElem?_cons_zero] at f0 f1
          obtain ⟨wo, hwo⟩ : ∃ wo : World, wo = wr := ⟨_, rfl⟩
          have r1 := hra.out lo
          have r2 := hrb.out lo
          have y1 : IntKind.i64.wrap ((fa lo).Hi - (fb lo).Lo) = (fa lo).Hi - (fb lo).Lo := IntWalk.i64_in _ (by omega)
          have hx0 := Lib.hid (hex.out lo)
          have rf0 := run_field_lo
          have rf1 := run_field_hi
          clear q1 a0 a1 hwo r1 r2
          go_region_held3 (fun w' => w'.cell? ⟨w.heap.size, 0, none⟩ = some (.slice (some ⟨ba, oa, none⟩) k c0) ∧ w'.cell? ⟨w.heap.size + 1, 0, none⟩ = some (.slice (some ⟨bb, ob, none⟩) i c1)) (first | exact ⟨f0, f1⟩ | exact ⟨x0, x1⟩ | exact ⟨y0, y2⟩)
            (first
              | (go_at_call 85; (with_reducible refine (HTA.out _ lo BB2.out.drew).mono ?_); rintro e w5 ⟨rfl, hb5⟩; have x0 := (HA0.out.drew.under hb5).cell 0; have x1 := (HA1.out.drew.under hb5).cell 0; simp only [List.getElem?_toArray, List.getElem?_cons_zero] at x0 x1)
              | (go_at_call 85; (with_reducible refine (HTB.out _ lo (BB2.out.drew.trans (hb5.mono BB2.out.drew.size))).mono ?_); rintro e w6 ⟨rfl, hb6⟩; have y0 := ((HA0.out.drew.under hb5).under hb6).cell 0; have y2 := ((HA1.out.drew.under hb5).under hb6).cell 0; simp only [List.getElem?_toArray, List.getElem?_cons_zero] at y0 y2))
          clear x0 x1 y0 y2 f0 f1 y1
          rw [← hx0.out]
          have BB3 := Lib.hid ((BB2.out.drew.trans (hb5.mono BB2.out.drew.size)).trans (hb6.mono (BB2.out.drew.trans (hb5.mono BB2.out.drew.size)).size))
          have BV := Lib.hid (show Below wr.heap.size wr w6 from (Below.refl _ _).drew.trans (hb5.trans (hb6.mono hb5.size)))
          replace HA0 := Lib.hid (HA0.out.under BV.out)
          replace HA1 := Lib.hid (HA1.out.under BV.out)
          replace HCL := Lib.hid (fun t ht => oldCell BV.out hg2 (HCL.out t ht))
          have hl0 := HA0.out.lt
          have hl1 := HA1.out.lt
          have hl2 : g < w6.heap.size := by have := BV.out.size; omega
          clear hb5 hb6 BV BB2 hg2 hx0
          have hexb : Hid (∀ z, -68719476736 ≤ ex z ∧ ex z ≤ 68719476736) := fun z => by
            have h1 := hra.out z
            have h2 := hrb.out z
            rw [hex.out]
            omega
          have HRX := Lib.hid (show refold ex lo hi (xb.drop 0) (ex lo) = res from HR.out)
          have hel := hexb.out lo
          have HMX := Lib.hid HLB.out
          clear HR HB2 Hb0 Hb1 HMA HMB HLX
          generalize ex lo = o0 at *
          obtain ⟨hel1, hel2⟩ := hel
          go_wp2_with fail
          obtain ⟨wp, rfl⟩ : ∃ wp : World, wp = wr := ⟨_, rfl⟩
          go_loopw [12, 13] (fun s12 s13 wr => ∃ (t : Nat) (o : Int), t ≤ m ∧ s13 = .int .i64 t ∧ s12 = .int .i64 o ∧ Hid (refold ex lo hi (xb.drop t) o = res) ∧ Hid (Below w6.heap.size w6 wr)) (fun _ s13 _ => m - (intOf s13).toNat)
          case atStart => exact ⟨0, o0, Nat.zero_le _, rfl, rfl, HRX, Below.refl _ _⟩
          case round =>
            obtain ⟨t, o, ht, rfl, rfl, hr, BV⟩ := hrel
            have BB4 := Lib.hid (BB3.out.trans (BV.out.mono BB3.out.size))
            by_cases hlt : t < m
            · have ct := oldCell BV.out hl2 (HCL.out t hlt)
              have hst := Lib.hid (refold_step ex lo hi xb t (by rw [HMX.out]; exact hlt) o)
              have HCT := Lib.hid (HCL.out t hlt)
              generalize pick xb t = z at *
              have hlt' : decide ((t : Int) < (m : Int)) = true := decide_eq_true (by omega)
              by_cases h1 : lo ≤ z
              case neg =>
                have h1' : decide (lo ≤ z) = false := decide_eq_false h1
                rw [if_neg (by omega)] at hst
                go_wp2_with fail
                go_roundw
                case rel => exact ⟨t + 1, o, hlt, by go_num, rfl, by unfold Hid; rw [← hst.out]; exact hr.out, BV⟩
                case measure => simp [intOf]; omega
              have h1' : decide (lo ≤ z) = true := decide_eq_true h1
              by_cases h2 : z ≤ hi
              case neg =>
                have h2' : decide (z ≤ hi) = false := decide_eq_false h2
                rw [if_neg (by omega)] at hst
                go_wp2_with fail
                go_roundw
                case rel => exact ⟨t + 1, o, hlt, by go_num, rfl, by unfold Hid; rw [← hst.out]; exact hr.out, BV⟩
                case measure => simp [intOf]; omega
              have h2' : decide (z ≤ hi) = true := decide_eq_true h2
              rw [if_pos ⟨h1, h2⟩] at hst
              go_wp2_with fail
              have f0 := (HA0.out.under BV.out).cell 0
              have f1 := (HA1.out.under BV.out).cell 0
              simp only [List.getElem?_toArray, List.getElem?_cons_zero] at f0 f1
              have r1 := hra.out z
              have r2 := hrb.out z
              have y1 : IntKind.i64.wrap ((fa z).Hi - (fb z).Lo) = (fa z).Hi - (fb z).Lo := IntWalk.i64_in _ (by omega)
              have hx0 := Lib.hid (hex.out z)
              rw [hx0.out] at hst
              clear r1 r2
              by_cases hmx : o < (fa z).Hi - (fb z).Lo
              · rw [show max o ((fa z).Hi - (fb z).Lo) = (fa z).Hi - (fb z).Lo by omega] at hst
                go_region_held3 (fun w' => w'.cell? ⟨w.heap.size, 0, none⟩ = some (.slice (some ⟨ba, oa, none⟩) k c0) ∧ w'.cell? ⟨w.heap.size + 1, 0, none⟩ = some (.slice (some ⟨bb, ob, none⟩) i c1) ∧ w'.cell? ⟨g, t, none⟩ = some (.int .i64 z)) (first | exact ⟨f0, f1, ct⟩ | exact ⟨x0, x1, x2⟩ | exact ⟨y0, y2, y3⟩)
                  (first
                    | (go_at_call 85; (with_reducible refine (HTA.out _ z BB4.out.drew).mono ?_); rintro e w7 ⟨rfl, hb7⟩; have x0 := ((HA0.out.under BV.out).drew.under hb7).cell 0; have x1 := ((HA1.out.under BV.out).drew.under hb7).cell 0; have x2 := oldCell (BV.out.drew.trans (hb7.mono BV.out.size)) hl2 HCT.out; simp only [List.getElem?_toArray, List.getElem?_cons_zero] at x0 x1)
                    | (go_at_call 85; (with_reducible refine (HTB.out _ z (BB4.out.drew.trans (hb7.mono BB4.out.drew.size))).mono ?_); rintro e w8 ⟨rfl, hb8⟩; have y0 := (((HA0.out.under BV.out).drew.under hb7).under hb8).cell 0; have y2 := (((HA1.out.under BV.out).drew.under hb7).under hb8).cell 0; have y3 := oldCell ((BV.out.drew.trans (hb7.mono BV.out.drew.size)).trans (hb8.mono (BV.out.drew.trans (hb7.mono BV.out.drew.size)).size)) hl2 HCT.out; simp only [List.getElem?_toArray, List.getElem?_cons_zero] at y0 y2))
                clear x0 x1 x2 y0 y2 y3 f0 f1 ct y1
                have BV2 := Lib.hid ((BV.out.drew.trans (hb7.mono BV.out.drew.size)).trans (hb8.mono (BV.out.drew.trans (hb7.mono BV.out.drew.size)).size))
                clear hb7 hb8
                go_wp2_with fail
                go_roundw
                case rel => exact ⟨t + 1, _, hlt, by go_num, rfl, by unfold Hid; rw [← hst.out]; exact hr.out, BV2⟩
                case measure => simp [intOf]; omega
              · rw [show max o ((fa z).Hi - (fb z).Lo) = o by omega] at hst
                go_region_held3 (fun w' => w'.cell? ⟨w.heap.size, 0, none⟩ = some (.slice (some ⟨ba, oa, none⟩) k c0) ∧ w'.cell? ⟨w.heap.size + 1, 0, none⟩ = some (.slice (some ⟨bb, ob, none⟩) i c1) ∧ w'.cell? ⟨g, t, none⟩ = some (.int .i64 z)) (first | exact ⟨f0, f1, ct⟩ | exact ⟨x0, x1, x2⟩ | exact ⟨y0, y2, y3⟩)
                  (first
                    | (go_at_call 85; (with_reducible refine (HTA.out _ z BB4.out.drew).mono ?_); rintro e w7 ⟨rfl, hb7⟩; have x0 := ((HA0.out.under BV.out).drew.under hb7).cell 0; have x1 := ((HA1.out.under BV.out).drew.under hb7).cell 0; have x2 := oldCell (BV.out.drew.trans (hb7.mono BV.out.size)) hl2 HCT.out; simp only [List.getElem?_toArray, List.getElem?_cons_zero] at x0 x1)
                    | (go_at_call 85; (with_reducible refine (HTB.out _ z (BB4.out.drew.trans (hb7.mono BB4.out.drew.size))).mono ?_); rintro e w8 ⟨rfl, hb8⟩; have y0 := (((HA0.out.under BV.out).drew.under hb7).under hb8).cell 0; have y2 := (((HA1.out.under BV.out).drew.under hb7).under hb8).cell 0; have y3 := oldCell ((BV.out.drew.trans (hb7.mono BV.out.drew.size)).trans (hb8.mono (BV.out.drew.trans (hb7.mono BV.out.drew.size)).size)) hl2 HCT.out; simp only [List.getElem?_toArray, List.getElem?_cons_zero] at y0 y2))
                clear x0 x1 x2 y0 y2 y3 f0 f1 ct y1
                have BV2 := Lib.hid ((BV.out.drew.trans (hb7.mono BV.out.drew.size)).trans (hb8.mono (BV.out.drew.trans (hb7.mono BV.out.drew.size)).size))
                clear hb7 hb8
                go_wp2_with fail
                go_roundw
                case rel => exact ⟨t + 1, _, hlt, by go_num, rfl, by unfold Hid; rw [if_neg (by omega), ← hst.out]; exact hr.out, BV2⟩
                case measure => simp [intOf]; omega
            · have hnk : decide ((t : Int) < (m : Int)) = false := decide_eq_false (by omega)
              go_wp2_with fail
              go_ret
              refine ⟨ret_int ?_, BB4.out⟩
              rw [← hr.out, List.drop_eq_nil_of_le (by rw [HMX.out]; omega)]
              rfl

set_option maxHeartbeats 1000000 in
theorem ref05_excess (la lb : List Knot) (lo hi : Int) (va vb : Value) (w : World) (hA : LineV w w.heap.size va la) (hB : LineV w w.heap.size vb lb) :
    Calls Try.prog 47 #[va, vb, .int .i64 lo, .int .i64 hi] w fun e w' => e = .returned (.int .i64 (extreme la lb lo hi)) ∧ Below w.heap.size w w' := by
  have HA := Lib.hid hA
  have HB := Lib.hid hB
  obtain ⟨A0, c0, rfl, kA⟩ := hA
  obtain ⟨A1, c1, rfl, kB⟩ := hB
  by_cases hall : okLine la = 0 ∧ okLine lb = 0 ∧ 0 ≤ lo ∧ lo ≤ hi ∧ hi ≤ 1048576
  · obtain ⟨h0, h1, h2, h3, h4⟩ := hall
    have := ref05_excess_walk la lb lo hi A0 A1 c0 c1 w kA kB h0 h1 h2 h3 h4
    rw [refold_places _ _ _ _ h3] at this
    rw [extreme, if_neg (by omega)]
    exact this
  · have hs := Lib.hid (show extreme la lb lo hi = 0 by rw [extreme, if_pos (by omega)])
    have hc : okLine la ≠ 0 ∨ (okLine la = 0 ∧ okLine lb ≠ 0) ∨ (okLine la = 0 ∧ okLine lb = 0 ∧ lo < 0) ∨ (okLine la = 0 ∧ okLine lb = 0 ∧ 0 ≤ lo ∧ hi < lo) ∨ (okLine la = 0 ∧ okLine lb = 0 ∧ 0 ≤ lo ∧ lo ≤ hi ∧ 1048576 < hi) := by omega
    have HLA := Lib.hid (fun W (hW : Below w.heap.size w W) => ref05_line _ la W (HA.out.below hW))
    have HLB := Lib.hid (fun W (hW : Below w.heap.size w W) => ref05_line _ lb W (HB.out.below hW))
    clear hall kA kB
    generalize okLine la = ea at *
    generalize okLine lb = eb at *
    generalize la.length = na at *
    generalize lb.length = nb at *
    obtain ⟨w0, hw0⟩ : ∃ w0, ((w.alloc (.cells #[.slice A0 na c0] 24)).alloc (.cells #[.slice A1 nb c1] 24)) = w0 := ⟨_, rfl⟩
    have b1 : Box w0 (w.heap.size + 1) 24 #[.slice A1 nb c1] := by rw [← hw0]; exact Box.new _ _ _ (by simp)
    have hB0 : Below w.heap.size w w0 := by rw [← hw0]; exact (by repeat (first | exact Below.refl _ _ | assumption | refine Below.setCell ?_ (by first | (simp; done) | (simp; omega)) _ | refine belowDrewN ?_ _ | refine Below.drew ?_ | refine Below.alloc ?_ (by first | (simp; done) | (simp; omega)) _))
    have HW0 := Lib.hid hw0
    clear hw0
    rcases hc with h1 | ⟨rfl, h2⟩ | ⟨rfl, rfl, h3⟩ | ⟨rfl, rfl, h3, h4⟩ | ⟨rfl, rfl, h3, h4, h5⟩
    · have d0 : (ea != 0) = true := by simpa using h1
      go_enter Try.func47, Try.ntmps47
      go_wp2_with fail
      rw [HW0.out]
      refine (HLA.out _ hB0).mono ?_
      rintro e w1 ⟨rfl, hb1⟩
      have hB1 := hB0.trans (hb1.mono hB0.size)
      go_wp2_with fail
      go_ret
      exact ⟨ret_int hs.out.symm, hB1⟩
    · have d0 : (eb != 0) = true := by simpa using h2
      go_enter Try.func47, Try.ntmps47
      go_wp2_with fail
      rw [HW0.out]
      refine (HLA.out _ hB0).mono ?_
      rintro e w1 ⟨rfl, hb1⟩
      have hB1 := hB0.trans (hb1.mono hB0.size)
      have q1 := (b1.under hb1).cell 0
      simp only [List.getElem?_toArray, List.getElem?_cons_zero] at q1
      go_wp2_with fail
      refine (HLB.out _ hB1).mono ?_
      rintro e w2 ⟨rfl, hb2⟩
      go_wp2_with fail
      go_ret
      exact ⟨ret_int hs.out.symm, hB1.trans (hb2.mono hB1.size)⟩
    · have d1 : decide (lo < 0) = true := decide_eq_true (by omega)
      go_enter Try.func47, Try.ntmps47
      go_wp2_with fail
      rw [HW0.out]
      refine (HLA.out _ hB0).mono ?_
      rintro e w1 ⟨rfl, hb1⟩
      have hB1 := hB0.trans (hb1.mono hB0.size)
      have q1 := (b1.under hb1).cell 0
      simp only [List.getElem?_toArray, List.getElem?_cons_zero] at q1
      go_wp2_with fail
      refine (HLB.out _ hB1).mono ?_
      rintro e w2 ⟨rfl, hb2⟩
      go_wp2_with fail
      go_ret
      exact ⟨ret_int hs.out.symm, hB1.trans (hb2.mono hB1.size)⟩
    · have d1 : decide (lo < 0) = false := decide_eq_false (by omega)
      have d2 : decide (hi < lo) = true := decide_eq_true (by omega)
      go_enter Try.func47, Try.ntmps47
      go_wp2_with fail
      rw [HW0.out]
      refine (HLA.out _ hB0).mono ?_
      rintro e w1 ⟨rfl, hb1⟩
      have hB1 := hB0.trans (hb1.mono hB0.size)
      have q1 := (b1.under hb1).cell 0
      simp only [List.getElem?_toArray, List.getElem?_cons_zero] at q1
      go_wp2_with fail
      refine (HLB.out _ hB1).mono ?_
      rintro e w2 ⟨rfl, hb2⟩
      go_wp2_with fail
      go_ret
      exact ⟨ret_int hs.out.symm, hB1.trans (hb2.mono hB1.size)⟩
    · have d1 : decide (lo < 0) = false := decide_eq_false (by omega)
      have d2 : decide (hi < lo) = false := decide_eq_false (by omega)
      have d3 : decide (1048576 < hi) = true := decide_eq_true (by omega)
      go_enter Try.func47, Try.ntmps47
      go_wp2_with fail
      rw [HW0.out]
      refine (HLA.out _ hB0).mono ?_
      rintro e w1 ⟨rfl, hb1⟩
      have hB1 := hB0.trans (hb1.mono hB0.size)
      have q1 := (b1.under hb1).cell 0
      simp only [List.getElem?_toArray, List.getElem?_cons_zero] at q1
      go_wp2_with fail
      refine (HLB.out _ hB1).mono ?_
      rintro e w2 ⟨rfl, hb2⟩
      go_wp2_with fail
      go_ret
      exact ⟨ret_int hs.out.symm, hB1.trans (hb2.mono hB1.size)⟩

theorem ref05_Inside (l : Stress) (lo hi : Int) (v0 : Value) (w : World) (hv : StressV w w.heap.size v0 l) :
    Calls Try.prog 16 #[v0, .int .i64 lo, .int .i64 hi] w fun e w' => e = .returned (.int .i64 (inside l lo hi)) ∧ Below w.heap.size w w' := by
  obtain ⟨AI, cI, AO, cO, rfl, hI, hO⟩ := hv
  have H := Lib.hid (fun W (hW : Below w.heap.size w W) => ref05_excess l.In l.Out lo hi _ _ W ⟨AI, cI, rfl, hI.up hW hW.size⟩ ⟨AO, cO, rfl, hO.up hW hW.size⟩)
  clear hI hO
  unfold inside
  generalize l.In.length = n0 at *
  generalize l.Out.length = n1 at *
  have hB := (Below.refl w.heap.size w).alloc (Nat.le_refl _) (.cells #[.slice AI n0 cI, .slice AO n1 cO] 26)
  go_enter Try.func16, Try.ntmps16
  go_wp2_with fail
  refine (H.out _ hB).mono ?_
  rintro e w1 ⟨rfl, hb1⟩
  go_wp2_with fail
  go_ret
  exact ⟨rfl, hB.trans (hb1.mono hB.size)⟩
theorem ref05_Outside (l : Stress) (lo hi : Int) (v0 : Value) (w : World) (hv : StressV w w.heap.size v0 l) :
    Calls Try.prog 18 #[v0, .int .i64 lo, .int .i64 hi] w fun e w' => e = .returned (.int .i64 (outside l lo hi)) ∧ Below w.heap.size w w' := by
  obtain ⟨AI, cI, AO, cO, rfl, hI, hO⟩ := hv
  have H := Lib.hid (fun W (hW : Below w.heap.size w W) => ref05_excess l.Out l.In lo hi _ _ W ⟨AO, cO, rfl, hO.up hW hW.size⟩ ⟨AI, cI, rfl, hI.up hW hW.size⟩)
  clear hI hO
  unfold outside
  generalize l.In.length = n0 at *
  generalize l.Out.length = n1 at *
  have hB := (Below.refl w.heap.size w).alloc (Nat.le_refl _) (.cells #[.slice AI n0 cI, .slice AO n1 cO] 26)
  go_enter Try.func18, Try.ntmps18
  go_wp2_with fail
  refine (H.out _ hB).mono ?_
  rintro e w1 ⟨rfl, hb1⟩
  go_wp2_with fail
  go_ret
  exact ⟨rfl, hB.trans (hb1.mono hB.size)⟩

theorem law05_short (l : Stress) (v0 : Value) (w : World) (hv : StressV w w.heap.size v0 l) :
    Calls Try.prog 13 #[v0] w fun e w' => e = .returned (.bool (decide (l.In.length ≤ 26) && decide (l.Out.length ≤ 26))) ∧ Below w.heap.size w w' := by
  obtain ⟨AI, cI, AO, cO, rfl, hI, hO⟩ := hv
  clear hI hO
  generalize l.In.length = n0 at *
  generalize l.Out.length = n1 at *
  by_cases h0 : n0 ≤ 26
  · have d0 : decide ((n0 : Int) ≤ 26) = true := decide_eq_true (by omega)
    have e0 : decide (n0 ≤ 26) = true := decide_eq_true h0
    rw [e0]
    by_cases h1 : n1 ≤ 26
    · have d1 : decide ((n1 : Int) ≤ 26) = true := decide_eq_true (by omega)
      have e1 : decide (n1 ≤ 26) = true := decide_eq_true h1
      rw [e1]
      go_enter Try.func13, Try.ntmps13
      go_wp2_with fail
      go_ret
      exact ⟨rfl, (by repeat (first | exact Below.refl _ _ | assumption | refine Below.setCell ?_ (by first | (simp; done) | (simp; omega)) _ | refine belowDrewN ?_ _ | refine Below.drew ?_ | refine Below.alloc ?_ (by first | (simp; done) | (simp; omega)) _))⟩
    · have d1 : decide ((n1 : Int) ≤ 26) = false := decide_eq_false (by omega)
      have e1 : decide (n1 ≤ 26) = false := decide_eq_false h1
      rw [e1]
      go_enter Try.func13, Try.ntmps13
      go_wp2_with fail
      go_ret
      exact ⟨rfl, (by repeat (first | exact Below.refl _ _ | assumption | refine Below.setCell ?_ (by first | (simp; done) | (simp; omega)) _ | refine belowDrewN ?_ _ | refine Below.drew ?_ | refine Below.alloc ?_ (by first | (simp; done) | (simp; omega)) _))⟩
  · have d0 : decide ((n0 : Int) ≤ 26) = false := decide_eq_false (by omega)
    have e0 : decide (n0 ≤ 26) = false := decide_eq_false h0
    rw [e0]
    go_enter Try.func13, Try.ntmps13
    go_wp2_with fail
    go_ret
    exact ⟨rfl, (by repeat (first | exact Below.refl _ _ | assumption | refine Below.setCell ?_ (by first | (simp; done) | (simp; omega)) _ | refine belowDrewN ?_ _ | refine Below.drew ?_ | refine Below.alloc ?_ (by first | (simp; done) | (simp; omega)) _))⟩

end Go.Proofs.Ytannipfohicpmaa

/- Walks of the reference of layer 5: why a section does not bear. -/
namespace Go.Proofs.Ytannipfohicpmaa
open Go.RowKit Go.Shelf Mpl

set_option maxHeartbeats 8000000 in
set_option maxRecDepth 100000 in
theorem ref05_why (j : Job) (i : Nat) (g : Grade) (pull : Int) (v0 : Value) (w : World) (hv : JobV w w.heap.size v0 j) (hg : fairGrade g = true) (hp0 : 0 ≤ pull) (hp1 : pull ≤ 70368744177664) (hn : j.Loads.length ≤ 6) (hi : i < j.Ends.length) (hm : j.Ends.length ≤ 1000) :
    Calls Try.prog 52 #[v0, .int .i64 i, gradeV g, .int .i64 pull] w fun e w' => e = .returned (.int .i64 (why j (top j i) (bottom j i) g pull)) ∧ Below w.heap.size w w' := by
  unfold gradeV
  have HBG := Lib.hid (fun W (hW : Below w.heap.size w W) => ref05_begin j _ i W (hv.below hW) hi hm)
  have hbd : Hid (bottom j i = pick j.Ends i) := rfl
  rw [hbd.out]
  clear hbd
  obtain ⟨AE, cE, AL, cL, AG, cG, rfl, hcap, hE, hL, hG⟩ := hv
  obtain ⟨eb, eo, rfl, heb, hec⟩ := hE (by omega)
  have HEC := Lib.hid (hec i hi)
  have HL := Lib.hid hL
  clear hE hL hG hcap hec
  generalize pick j.Ends i = hi' at *
  generalize top j i = lo at *
  generalize hnE : j.Ends.length = nE at *
  generalize hnL : j.Loads.length = nL at *
  have HNL := Lib.hid hnL
  generalize hnG : j.Grades.length = nG at *
  clear hnE hnL hnG
  have HF := Lib.hid (fair_bounds hg)
  clear hg
  generalize hres : why j lo hi' g pull = res
  have HR := Lib.hid hres
  clear hres
  obtain ⟨w3, hw3⟩ : ∃ w3, (w.alloc (.cells #[.slice (some ⟨eb, eo, none⟩) nE cE, .slice AL nL cL, .slice AG nG cG, .int .i64 j.Factor, .int .i64 j.Over] 36)).alloc (.cells #[.int .i64 g.Burst, .int .i64 g.Collapse, .int .i64 g.Pull, .int .i64 g.Weight, .int .i64 g.Cost] 63) = w3 := ⟨_, rfl⟩
  have b0 : Hid (Box w3 w.heap.size 36 #[.slice (some ⟨eb, eo, none⟩) nE cE, .slice AL nL cL, .slice AG nG cG, .int .i64 j.Factor, .int .i64 j.Over]) := by unfold Hid; rw [← hw3]; exact (Box.new w _ _ rfl).alloc _
  have b2 : Hid (Box w3 (w.heap.size + 1) 63 #[.int .i64 g.Burst, .int .i64 g.Collapse, .int .i64 g.Pull, .int .i64 g.Weight, .int .i64 g.Cost]) := by unfold Hid; rw [← hw3]; exact Box.new _ _ _ (by simp)
  have hB3 : Hid (Below w.heap.size w w3) := by unfold Hid; rw [← hw3]; exact (by repeat (first | exact Below.refl _ _ | assumption | refine Below.setCell ?_ (by first | (simp; done) | (simp; omega)) _ | refine belowDrewN ?_ _ | refine Below.drew ?_ | refine Below.alloc ?_ (by first | (simp; done) | (simp; omega)) _))
  have HW3 := Lib.hid hw3
  clear hw3
  go_enter Try.func52, Try.ntmps52
  go_wp2_with fail
  rw [HW3.out]
  go_loopw [9] (fun s9 wr => ∃ k : Nat, k ≤ nL ∧ s9 = .int .i64 k ∧ Hid ((j.Loads.drop k).any (fun l => decide (g.Burst < needed (inside l lo hi') j.Factor)) = whyBurst j lo hi' g) ∧ Hid (Below w3.heap.size w3 wr)) (fun s9 _ => nL - (intOf s9).toNat)
  case atStart => exact ⟨0, Nat.zero_le _, rfl, rfl, Below.refl _ _⟩
  case round =>
    obtain ⟨k, hk, rfl, hr, BW⟩ := hrel
    have BB : Hid (Below w.heap.size w wr) := hB3.out.trans (BW.out.mono hB3.out.size)
    by_cases hlt : k < nL
    · have hkl : k < j.Loads.length := by rw [HNL.out]; exact hlt
      have t1 : decide (k < nL) = true := decide_eq_true hlt
      obtain ⟨b, off, AI, AO, cI, cO, rfl, hb, hc⟩ := HL.out (by omega)
      obtain ⟨c0, c1, hk0, hk1⟩ := hc k hkl
      clear hc
      have C0 := Lib.hid c0
      have C1 := Lib.hid c1
      clear c0 c1
      have hstep := Lib.hid (any_from (fun l => decide (g.Burst < needed (inside l lo hi') j.Factor)) j.Loads k hkl)
      have hld : ld j.Loads k = j.Loads[k] := by simp [ld, hkl]
      rw [← hld] at hstep
      have HSV : Hid (StressV w w.heap.size (.agg #[.slice (AI k) (ld j.Loads k).In.length (cI k), .slice (AO k) (ld j.Loads k).Out.length (cO k)]) (ld j.Loads k)) := ⟨AI k, cI k, AO k, cO k, rfl, hk0, hk1⟩
      clear hk0 hk1 hld hkl
      have HIN := Lib.hid (fun W (hW : Below w.heap.size w W) => ref05_Inside (ld j.Loads k) lo hi' _ W (HSV.out.below hW))
      clear HSV
      generalize (ld j.Loads k).In.length = n0 at *
      generalize (ld j.Loads k).Out.length = n1 at *
      obtain ⟨p0, p1, p2, p3, p4⟩ := job_box (b0.out.under BW.out)
      go_wp2_with fail
      have d0 := oldCell BB.out hb C0.out
      have d1 := oldCell BB.out hb C1.out
      have d2 := oldCell BB.out heb HEC.out
      have d3 := (b2.out.under BW.out).cell 0
      simp only [List.getElem?_toArray, List.getElem?_cons_zero] at d3
      have z1 : (k : Int) < (nL : Int) := by omega
      have z2 : (i : Int) < (nE : Int) := by omega
      have z3 : (0 : Int) ≤ (k : Int) := by omega
      have z4 : ((k : Int)).toNat = k := by omega
      have z5 : (0 : Int) ≤ (i : Int) := by omega
      have z6 : ((i : Int)).toNat = i := by omega
      go_region_held3 (fun w' => w'.cell? ⟨w.heap.size, 0, none⟩ = some (.slice (some ⟨eb, eo, none⟩) nE cE) ∧ w'.cell? ⟨w.heap.size, 1, none⟩ = some (.slice (some ⟨b, off, none⟩) nL cL) ∧ w'.cell? ⟨w.heap.size, 2, none⟩ = some (.slice AG nG cG) ∧ w'.cell? ⟨w.heap.size, 3, none⟩ = some (.int .i64 j.Factor) ∧ w'.cell? ⟨w.heap.size, 4, none⟩ = some (.int .i64 j.Over) ∧ w'.cell? ⟨b, off + k * 2, none⟩ = some (.slice (AI k) n0 (cI k)) ∧ w'.cell? ⟨b, off + k * 2 + 1, none⟩ = some (.slice (AO k) n1 (cO k)) ∧ w'.cell? ⟨eb, eo + i, none⟩ = some (.int .i64 hi') ∧ w'.cell? ⟨w.heap.size + 1, 0, none⟩ = some (.int .i64 g.Burst))
        (first | exact ⟨p0, p1, p2, p3, p4, d0, d1, d2, d3⟩ | exact ⟨x0, x1, x2, x3, x4, x5, x6, x7, x8⟩ | exact ⟨y0, y1, y2, y3, y4, y5, y6, y7, y8⟩)
        (first
          | (go_at_call 54; refine (HBG.out _ BB.out.drew).mono ?_; rintro e w5 ⟨rfl, hb5⟩; have BW5 := Lib.hid (BW.out.drew.trans (hb5.mono BW.out.drew.size)); have BB5 := Lib.hid (BB.out.drew.trans (hb5.mono BB.out.drew.size)); clear hb5; obtain ⟨x0, x1, x2, x3, x4⟩ := job_box (b0.out.under BW5.out); have x5 := oldCell BB5.out hb C0.out; have x6 := oldCell BB5.out hb C1.out; have x7 := oldCell BB5.out heb HEC.out; have x8 := (b2.out.under BW5.out).cell 0; simp only [List.getElem?_toArray, List.getElem?_cons_zero] at x8)
          | (go_at_call 16; refine (HIN.out _ BB5.out).mono ?_; rintro e w6 ⟨rfl, hb6⟩; have BW6 := Lib.hid (BW5.out.trans (hb6.mono BW5.out.size)); have BB6 := Lib.hid (BB5.out.trans (hb6.mono BB5.out.size)); clear hb6; obtain ⟨y0, y1, y2, y3, y4⟩ := job_box (b0.out.under BW6.out); have y5 := oldCell BB6.out hb C0.out; have y6 := oldCell BB6.out hb C1.out; have y7 := oldCell BB6.out heb HEC.out; have y8 := (b2.out.under BW6.out).cell 0; simp only [List.getElem?_toArray, List.getElem?_cons_zero] at y8)
          | (go_at_call 20; refine (ref05_Needed _ _ _).mono ?_; rintro e w' ⟨rfl, rfl⟩)
          | fail)
      by_cases hq : g.Burst < needed (inside (ld j.Loads k) lo hi') j.Factor
      · have hfin : Hid (1 = res) := by
          unfold Hid
          rw [← HR.out, why, ← hr.out, hstep.out, decide_eq_true hq]
          rfl
        go_wp2_with fail
        go_ret
        exact ⟨ret_int hfin.out, BB6.out⟩
      · have hnext := Lib.hid (show (j.Loads.drop (k + 1)).any (fun l => decide (g.Burst < needed (inside l lo hi') j.Factor)) = whyBurst j lo hi' g by
          rw [← hr.out, hstep.out, decide_eq_false hq]; rfl)
        go_wp2_with fail
        go_roundw
        case rel => exact ⟨k + 1, hlt, by go_num, hnext.out, BW6.out⟩
        case measure => simp [intOf]; omega
    · have hbu : Hid (whyBurst j lo hi' g = false) := by
        unfold Hid
        rw [← hr.out, List.drop_eq_nil_of_le (by rw [HNL.out]; omega)]
        rfl
      have t1 : decide (k < nL) = false := decide_eq_false hlt
      obtain ⟨p0, p1, p2, p3, p4⟩ := job_box (b0.out.under BW.out)
      have r22 := (b2.out.under BW.out).cell 2
      simp only [List.getElem?_toArray, List.getElem?_cons_zero, List.getElem?_cons_succ] at r22
      by_cases hpl : g.Pull < pull
      · have hfin : Hid (3 = res) := by
          unfold Hid
          rw [← HR.out, why, hbu.out, if_pos hpl]
          rfl
        go_wp2_with fail
        go_ret
        exact ⟨ret_int hfin.out, BB.out⟩
      · obtain ⟨_, ⟨hc0, hc1⟩, ⟨hu0, hu1⟩, _, _⟩ := HF.out
        have hq0 : 0 ≤ 1000 * (g.Pull - pull) / g.Pull := Int.ediv_nonneg (by omega) (by omega)
        have hq1 : 1000 * (g.Pull - pull) / g.Pull ≤ 1000 := Int.ediv_le_of_le_mul (by omega) (by omega)
        have hm0 : 0 ≤ g.Collapse * (1000 * (g.Pull - pull) / g.Pull) := Int.mul_nonneg hc0 hq0
        have hm1 : g.Collapse * (1000 * (g.Pull - pull) / g.Pull) ≤ 68719476736000 := by
          have := Int.mul_le_mul_of_nonneg_left hq1 hc0
          omega
        have hz : (g.Pull == 0) = false := beq_eq_false_iff_ne.2 (by omega)
        go_wp2_with fail
        clear p0 p1 p2 p3 p4 r22 hz
        have hwc : Hid (why j lo hi' g pull = if whyCollapse j lo hi' (g.Collapse * (1000 * (g.Pull - pull) / g.Pull) / 1000) then 2 else 0) := by
          unfold Hid
          rw [why, hbu.out, if_neg (by decide), if_neg (by omega)]
        generalize 1000 * (g.Pull - pull) / g.Pull = share at *
        obtain ⟨wo, rfl⟩ : ∃ wo : World, wo = wr := ⟨_, rfl⟩
        have BBo := Lib.hid BB.out
        go_loopw [11] (fun s11 wr => ∃ k : Nat, k ≤ nL ∧ s11 = .int .i64 k ∧ Hid ((j.Loads.drop k).any (fun l => decide (g.Collapse * share / 1000 < needed (outside l lo hi') j.Factor)) = whyCollapse j lo hi' (g.Collapse * share / 1000)) ∧ Hid (Below wo.heap.size wo wr)) (fun s11 _ => nL - (intOf s11).toNat)
        case atStart => exact ⟨0, Nat.zero_le _, rfl, rfl, Below.refl _ _⟩
        case round =>
          obtain ⟨k2, hk2, rfl, hr2, BV⟩ := hrel
          have BW2 := Lib.hid (BW.out.trans (BV.out.mono BW.out.size))
          have BB2 : Hid (Below w.heap.size w wr) := BBo.out.trans (BV.out.mono BBo.out.size)
          by_cases hlt2 : k2 < nL
          · have hkl : k2 < j.Loads.length := by rw [HNL.out]; exact hlt2
            have t2 : decide (k2 < nL) = true := decide_eq_true hlt2
            obtain ⟨b, off, AI, AO, cI, cO, rfl, hb, hc⟩ := HL.out (by omega)
            obtain ⟨c0, c1, hk0, hk1⟩ := hc k2 hkl
            clear hc
            have C0 := Lib.hid c0
            have C1 := Lib.hid c1
            clear c0 c1
            have hstep := Lib.hid (any_from (fun l => decide (g.Collapse * share / 1000 < needed (outside l lo hi') j.Factor)) j.Loads k2 hkl)
            have hld : ld j.Loads k2 = j.Loads[k2] := by simp [ld, hkl]
            rw [← hld] at hstep
            have HSV : Hid (StressV w w.heap.size (.agg #[.slice (AI k2) (ld j.Loads k2).In.length (cI k2), .slice (AO k2) (ld j.Loads k2).Out.length (cO k2)]) (ld j.Loads k2)) := ⟨AI k2, cI k2, AO k2, cO k2, rfl, hk0, hk1⟩
            clear hk0 hk1 hld hkl
            have HIN := Lib.hid (fun W (hW : Below w.heap.size w W) => ref05_Outside (ld j.Loads k2) lo hi' _ W (HSV.out.below hW))
            clear HSV
            generalize (ld j.Loads k2).In.length = n0 at *
            generalize (ld j.Loads k2).Out.length = n1 at *
            obtain ⟨p0, p1, p2, p3, p4⟩ := job_box (b0.out.under BW2.out)
            go_wp2_with fail
            have d0 := oldCell BB2.out hb C0.out
            have d1 := oldCell BB2.out hb C1.out
            have d2 := oldCell BB2.out heb HEC.out
            have d3 := (b2.out.under BW2.out).cell 1
            simp only [List.getElem?_toArray, List.getElem?_cons_zero, List.getElem?_cons_succ] at d3
            have z1 : (k2 : Int) < (nL : Int) := by omega
            have z2 : (i : Int) < (nE : Int) := by omega
            have z3 : (0 : Int) ≤ (k2 : Int) := by omega
            have z4 : ((k2 : Int)).toNat = k2 := by omega
            have z5 : (0 : Int) ≤ (i : Int) := by omega
            have z6 : ((i : Int)).toNat = i := by omega
            have z7 : IntKind.i64.wrap (g.Collapse * share) = g.Collapse * share := IntWalk.i64_in _ (by omega)
            have z8 : IntKind.i64.wrap ((g.Collapse * share).tdiv 1000) = g.Collapse * share / 1000 := by rw [Int.tdiv_eq_ediv_of_nonneg hm0]; exact IntWalk.i64_in _ (by omega)
            go_region_held3 (fun w' => w'.cell? ⟨w.heap.size, 0, none⟩ = some (.slice (some ⟨eb, eo, none⟩) nE cE) ∧ w'.cell? ⟨w.heap.size, 1, none⟩ = some (.slice (some ⟨b, off, none⟩) nL cL) ∧ w'.cell? ⟨w.heap.size, 2, none⟩ = some (.slice AG nG cG) ∧ w'.cell? ⟨w.heap.size, 3, none⟩ = some (.int .i64 j.Factor) ∧ w'.cell? ⟨w.heap.size, 4, none⟩ = some (.int .i64 j.Over) ∧ w'.cell? ⟨b, off + k2 * 2, none⟩ = some (.slice (AI k2) n0 (cI k2)) ∧ w'.cell? ⟨b, off + k2 * 2 + 1, none⟩ = some (.slice (AO k2) n1 (cO k2)) ∧ w'.cell? ⟨eb, eo + i, none⟩ = some (.int .i64 hi') ∧ w'.cell? ⟨w.heap.size + 1, 1, none⟩ = some (.int .i64 g.Collapse))
              (first | exact ⟨p0, p1, p2, p3, p4, d0, d1, d2, d3⟩ | exact ⟨x0, x1, x2, x3, x4, x5, x6, x7, x8⟩ | exact ⟨y0, y1, y2, y3, y4, y5, y6, y7, y8⟩)
              (first
                | (go_at_call 54; refine (HBG.out _ BB2.out.drew).mono ?_; rintro e w5 ⟨rfl, hb5⟩; have BV5 := Lib.hid (BV.out.drew.trans (hb5.mono BV.out.drew.size)); have BW5 := Lib.hid (BW2.out.drew.trans (hb5.mono BW2.out.drew.size)); have BB5 := Lib.hid (BB2.out.drew.trans (hb5.mono BB2.out.drew.size)); clear hb5; obtain ⟨x0, x1, x2, x3, x4⟩ := job_box (b0.out.under BW5.out); have x5 := oldCell BB5.out hb C0.out; have x6 := oldCell BB5.out hb C1.out; have x7 := oldCell BB5.out heb HEC.out; have x8 := (b2.out.under BW5.out).cell 1; simp only [List.getElem?_toArray, List.getElem?_cons_zero, List.getElem?_cons_succ] at x8)
                | (go_at_call 18; refine (HIN.out _ BB5.out).mono ?_; rintro e w6 ⟨rfl, hb6⟩; have BV6 := Lib.hid (BV5.out.trans (hb6.mono BV5.out.size)); have BW6 := Lib.hid (BW5.out.trans (hb6.mono BW5.out.size)); have BB6 := Lib.hid (BB5.out.trans (hb6.mono BB5.out.size)); clear hb6; obtain ⟨y0, y1, y2, y3, y4⟩ := job_box (b0.out.under BW6.out); have y5 := oldCell BB6.out hb C0.out; have y6 := oldCell BB6.out hb C1.out; have y7 := oldCell BB6.out heb HEC.out; have y8 := (b2.out.under BW6.out).cell 1; simp only [List.getElem?_toArray, List.getElem?_cons_zero, List.getElem?_cons_succ] at y8)
                | (go_at_call 20; refine (ref05_Needed _ _ _).mono ?_; rintro e w' ⟨rfl, rfl⟩)
                | fail)
            by_cases hq : g.Collapse * share / 1000 < needed (outside (ld j.Loads k2) lo hi') j.Factor
            · have hfin : Hid (2 = res) := by
                unfold Hid
                rw [← HR.out, hwc.out, ← hr2.out, hstep.out, decide_eq_true hq]
                rfl
              go_wp2_with fail
              go_ret
              exact ⟨ret_int hfin.out, BB6.out⟩
            · have hnext := Lib.hid (show (j.Loads.drop (k2 + 1)).any (fun l => decide (g.Collapse * share / 1000 < needed (outside l lo hi') j.Factor)) = whyCollapse j lo hi' (g.Collapse * share / 1000) by
                rw [← hr2.out, hstep.out, decide_eq_false hq]; rfl)
              go_wp2_with fail
              go_roundw
              case rel => exact ⟨k2 + 1, hlt2, by go_num, hnext.out, BV6.out⟩
              case measure => simp [intOf]; omega
          · have hfin : Hid (0 = res) := by
              unfold Hid
              rw [← HR.out, hwc.out, ← hr2.out, List.drop_eq_nil_of_le (by rw [HNL.out]; omega)]
              rfl
            have t2 : decide (k2 < nL) = false := decide_eq_false hlt2
            obtain ⟨p0, p1, p2, p3, p4⟩ := job_box (b0.out.under BW2.out)
            go_wp2_with fail
            go_ret
            exact ⟨ret_int hfin.out, BB2.out⟩

end Go.Proofs.Ytannipfohicpmaa

/- Walks of the reference of layer 5: the cost of a choice, the pulls. -/
namespace Go.Proofs.Ytannipfohicpmaa
open Go.RowKit Go.Shelf Mpl

set_option maxHeartbeats 8000000 in
set_option maxRecDepth 100000 in
theorem ref05_Cost (j : Job) (l : List Int) (v0 : Value) (A : Option Addr) (c : Nat) (w : World) (hv : JobV w w.heap.size v0 j) (hl : Ints w w.heap.size A l) (hnl : l.length ≤ 1000) :
    Calls Try.prog 28 #[v0, .slice A l.length c] w fun e w' => e = .returned (.int .i64 (cost j l)) ∧ Below w.heap.size w w' := by
  have HV := Lib.hid hv
  obtain ⟨AE, cE, AL, cL, AG, cG, rfl, _, hE, _, hG⟩ := hv
  have HL := Lib.hid hl
  have HE := Lib.hid hE
  have HG := Lib.hid hG
  have HFA := Lib.hid (fun W (hW : Below w.heap.size w W) => ref05_fair j l _ A c W (HV.out.below hW) (hl.up hW hW.size) hnl)
  have hR : Hid (cost j l = if isChoice j l then sumFrom (costOf j l) 0 l.length else 0) := rfl
  have HBG := Lib.hid (fun k W (hW : Below w.heap.size w W) (hk : k < j.Ends.length) hm => ref05_begin j _ k W (HV.out.below hW) hk hm)
  clear hl hE hG
  generalize hnE : j.Ends.length = nE at *
  generalize j.Loads.length = nL at *
  generalize hnG : j.Grades.length = nG at *
  generalize hnl' : l.length = nl at *
  have HNE := Lib.hid hnE
  have HNG := Lib.hid hnG
  have HNl := Lib.hid hnl'
  clear hnE hnG hnl'
  have HB := Lib.hid ((Below.refl w.heap.size w).alloc (Nat.le_refl _) (.cells #[.slice AE nE cE, .slice AL nL cL, .slice AG nG cG, .int .i64 j.Factor, .int .i64 j.Over] 36))
  have B0 := Lib.hid (Box.new w 36 #[.slice AE nE cE, .slice AL nL cL, .slice AG nG cG, .int .i64 j.Factor, .int .i64 j.Over] rfl)
  cases hi : isChoice j l
  · rw [hi] at HFA hR
    clear hi
    have hz : Hid (cost j l = 0) := hR.out
    go_enter Try.func28, Try.ntmps28
    go_wp2_with fail
    refine wp_loop_rounds 1 ?_
    rw [rounds_succ]
    obtain ⟨q0, q1, q2, q3, q4⟩ := job_box B0.out
    go_wp2_with fail
    refine (HFA.out _ HB.out).mono ?_
    rintro e w1 ⟨rfl, hb1⟩
    go_wp2_with fail
    go_ret
    exact ⟨ret_int hz.out.symm, HB.out.trans (hb1.mono HB.out.size)⟩
  have hC := isChoice_chosen hi
  rw [hi] at HFA hR
  have HC := Lib.hid hC
  have hR2 : Hid (cost j l = sumFrom (costOf j l) 0 nl) := hR.out
  have h5 : nl ≤ 5 := by have := hC.few; have := hC.same; rw [← HNl.out]; omega
  have hsame : Hid (nl = nE) := by unfold Hid; rw [← HNl.out, ← HNE.out]; exact hC.same
  clear hi hC hR
  obtain ⟨w0, hw0⟩ : ∃ w0, w.alloc (.cells #[.slice AE nE cE, .slice AL nL cL, .slice AG nG cG, .int .i64 j.Factor, .int .i64 j.Over] 36) = w0 := ⟨_, rfl⟩
  rw [hw0] at HB B0
  have HW0 := Lib.hid hw0
  clear hw0
  go_enter Try.func28, Try.ntmps28
  go_wp2_with fail
  rw [HW0.out]
  go_loopw [5, 6] (fun s5 s6 wr => ∃ k : Nat, k ≤ nl ∧ s6 = .int .i64 k ∧ s5 = .int .i64 (sumFrom (costOf j l) 0 k) ∧ Hid (Below w0.heap.size w0 wr)) (fun _ s6 _ => nl - (intOf s6).toNat)
  case atStart => exact ⟨0, Nat.zero_le _, rfl, rfl, Below.refl _ _⟩
  case round =>
    obtain ⟨k, hk, rfl, rfl, BW⟩ := hrel
    have BB := Lib.hid (HB.out.trans (BW.out.mono HB.out.size))
    obtain ⟨q0, q1, q2, q3, q4⟩ := job_box (B0.out.under BW.out)
    by_cases hlt : k < nl
    · go_wp2_with fail
      refine (HFA.out wr BB.out).mono ?_
      rintro e w2 ⟨rfl, hb2⟩
      have BW2 := Lib.hid (BW.out.trans (hb2.mono BW.out.size))
      have BB2 := Lib.hid (BB.out.trans (hb2.mono BB.out.size))
      clear hb2 q0 q1 q2 q3 q4
      have d1 : decide (k < nl) = true := decide_eq_true hlt
      have hkl : k < l.length := by rw [HNl.out]; exact hlt
      obtain ⟨lb, lo, rfl, hlb, hlc⟩ := HL.out (by omega)
      obtain ⟨eb, eo, rfl, heb, hec⟩ := HE.out (by have := HC.out.same; omega)
      obtain ⟨hg0, hg1⟩ := HC.out.grades k hkl
      obtain ⟨gb, go, rfl, hgb, hgc⟩ := HG.out (by omega)
      obtain ⟨_, _, _, _, gc4⟩ := hgc _ hg1
      have HC1 := Lib.hid (hlc k hkl)
      have HC2 := Lib.hid gc4
      have HC3 := Lib.hid (hec k (by have := HC.out.same; omega))
      clear hlc hec hgc gc4
      have hsec := HC.out.sec hkl
      have hcost := HC.out.cost hkl
      have hsum := sumFrom_bounds (costOf j l) 0 k 1099511627776 (fun i _ hi => HC.out.cost (by omega))
      have hsl := Lib.hid (sumFrom_last (costOf j l) 0 k)
      have hdef : Hid (costOf j l k = (gd j.Grades (pick l k).toNat).Cost * (pick j.Ends k - top j k)) := rfl
      rw [hdef.out] at hcost
      have hbd : Hid (bottom j k = pick j.Ends k) := rfl
      rw [hbd.out] at hsec
      have HBE := Lib.hid (HBG.out k · · (by rw [← hsame.out]; exact hlt) (by rw [← hsame.out]; omega))
      have htop := HC.out.top0 k (by have := HC.out.same; omega)
      have hend := HC.out.ends k (by have := HC.out.same; omega)
      have htd : Hid (topOf j.Ends k = top j k) := rfl
      rw [htd.out] at htop
      have hgi : Hid (pick l k = ((pick l k).toNat : Int)) := by unfold Hid; omega
      have hgn : (pick l k).toNat < nG := by rw [← HNG.out]; exact hg1
      rw [hgi.out] at HC1
      clear hg0 hg1 hgi
      generalize (pick l k).toNat = gi at *
      generalize sumFrom (costOf j l) 0 k = S at *
      generalize pick j.Ends k = ee at *
      generalize top j k = tt at *
      generalize (gd j.Grades gi).Cost = gcost at *
      obtain ⟨hc0, hc1⟩ := hcost
      obtain ⟨hs0, hs1⟩ := hsum
      obtain ⟨hsec0, hsec1⟩ := hsec
      obtain ⟨hend0, hend1⟩ := hend
      go_wp2_with fail
      obtain ⟨p0, p1, p2, p3, p4⟩ := job_box (B0.out.under BW2.out)
      have p5 := oldCell BB2.out hlb HC1.out
      have p6 := oldCell BB2.out hgb HC2.out
      have p7 := oldCell BB2.out heb HC3.out
      have z1 : IntKind.i64.wrap (ee - tt) = ee - tt := IntWalk.i64_in _ (by omega)
      have z2 : IntKind.i64.wrap (gcost * (ee - tt)) = gcost * (ee - tt) := IntWalk.i64_in _ (by omega)
      have z3 : IntKind.i64.wrap (S + gcost * (ee - tt)) = S + gcost * (ee - tt) := IntWalk.i64_in _ (by omega)
      have z4 : (k : Int) < (nl : Int) := by omega
      have z5 : (k : Int) < (nE : Int) := by rw [← hsame.out]; omega
      have z6 : (gi : Int) < (nG : Int) := by omega
      have z7 : (0 : Int) ≤ (gi : Int) := by omega
      have z8 : ((gi : Int)).toNat = gi := by omega
      have z9 : k < nE := by rw [← hsame.out]; exact hlt
      clear hc0 hc1 hs0 hs1 hsec0 hsec1 hend0 hend1 htop
      go_region_held3 (fun w' => w'.cell? ⟨w.heap.size, 0, none⟩ = some (.slice (some ⟨eb, eo, none⟩) nE cE) ∧ w'.cell? ⟨w.heap.size, 1, none⟩ = some (.slice AL nL cL) ∧ w'.cell? ⟨w.heap.size, 2, none⟩ = some (.slice (some ⟨gb, go, none⟩) nG cG) ∧ w'.cell? ⟨w.heap.size, 3, none⟩ = some (.int .i64 j.Factor) ∧ w'.cell? ⟨w.heap.size, 4, none⟩ = some (.int .i64 j.Over) ∧ w'.cell? ⟨lb, lo + k, none⟩ = some (.int .i64 gi) ∧ w'.cell? ⟨gb, go + gi * 5 + 4, none⟩ = some (.int .i64 gcost) ∧ w'.cell? ⟨eb, eo + k, none⟩ = some (.int .i64 ee))
        (first | exact ⟨p0, p1, p2, p3, p4, p5, p6, p7⟩ | exact ⟨x0, x1, x2, x3, x4, x5, x6, x7⟩)
        (first
          | (go_at_call 54; refine (HBE.out _ BB2.out.drew).mono ?_; rintro e w3 ⟨rfl, hb3⟩; have BW3 := Lib.hid (BW2.out.drew.trans (hb3.mono BW2.out.drew.size)); have BB3 := Lib.hid (BB2.out.drew.trans (hb3.mono BB2.out.drew.size)); obtain ⟨x0, x1, x2, x3, x4⟩ := job_box (B0.out.under BW3.out); have x5 := oldCell BB3.out hlb HC1.out; have x6 := oldCell BB3.out hgb HC2.out; have x7 := oldCell BB3.out heb HC3.out)
          | fail)
      go_wp2_with fail
      go_roundw
      case rel => exact ⟨k + 1, hlt, by go_num, by rw [hsl.out, Nat.zero_add, hdef.out], BW3⟩
      case measure => simp [intOf]; omega
    · obtain rfl : k = nl := by omega
      have d1 : decide (k < k) = false := decide_eq_false (by omega)
      go_wp2_with fail
      refine (HFA.out wr BB.out).mono ?_
      rintro e w2 ⟨rfl, hb2⟩
      go_wp2_with fail
      go_ret
      exact ⟨ret_int hR2.out.symm, BB.out.trans (hb2.mono BB.out.size)⟩

end Go.Proofs.Ytannipfohicpmaa

/- Walks of the reference of layer 5: the pulls. -/
namespace Go.Proofs.Ytannipfohicpmaa
open Go.RowKit Go.Shelf Mpl

set_option maxHeartbeats 8000000 in
set_option maxRecDepth 100000 in
theorem ref05_Pulls (j : Job) (l : List Int) (v0 : Value) (A : Option Addr) (c : Nat) (w : World) (hv : JobV w w.heap.size v0 j) (hl : Ints w w.heap.size A l) (hnl : l.length ≤ 1000) :
    Calls Try.prog 26 #[v0, .slice A l.length c] w fun e w' => (∃ A' c', e = .returned (.slice A' (pullsOf j l).length c') ∧ Ints w' w'.heap.size A' (pullsOf j l)) ∧ Below w.heap.size w w' := by
  have HV := Lib.hid hv
  obtain ⟨AE, cE, AL, cL, AG, cG, rfl, _, hE, _, hG⟩ := hv
  have HL := Lib.hid hl
  have HE := Lib.hid hE
  have HG := Lib.hid hG
  have HFA := Lib.hid (fun W (hW : Below w.heap.size w W) => ref05_fair j l _ A c W (HV.out.below hW) (hl.up hW hW.size) hnl)
  have hR : Hid (pullsOf j l = if isChoice j l then (List.range l.length).map (pullOf j l) else []) := rfl
  have HBG := Lib.hid (fun k W (hW : Below w.heap.size w W) (hk : k < j.Ends.length) hm => ref05_begin j _ k W (HV.out.below hW) hk hm)
  have hpd : Hid (∀ i, pullOf j l i = j.Over + sumFrom (weightOf j l) i (l.length - i)) := fun _ => rfl
  clear hl hE hG
  generalize hnE : j.Ends.length = nE at *
  generalize j.Loads.length = nL at *
  generalize hnG : j.Grades.length = nG at *
  generalize hnl' : l.length = nl at *
  have HNE := Lib.hid hnE
  have HNG := Lib.hid hnG
  have HNl := Lib.hid hnl'
  clear hnE hnG hnl'
  have HB := Lib.hid ((Below.refl w.heap.size w).alloc (Nat.le_refl _) (.cells #[.slice AE nE cE, .slice AL nL cL, .slice AG nG cG, .int .i64 j.Factor, .int .i64 j.Over] 36))
  have B0 := Lib.hid (Box.new w 36 #[.slice AE nE cE, .slice AL nL cL, .slice AG nG cG, .int .i64 j.Factor, .int .i64 j.Over] rfl)
  cases hi : isChoice j l
  · rw [hi] at HFA hR
    clear hi
    have hz : Hid (pullsOf j l = []) := hR.out
    go_enter Try.func26, Try.ntmps26
    go_wp2_with fail
    refine (HFA.out _ HB.out).mono ?_
    rintro e w1 ⟨rfl, hb1⟩
    go_wp2_with fail
    go_ret
    rw [hz.out]
    exact ⟨⟨none, 0, rfl, fun h => absurd h (by simp)⟩, HB.out.trans (hb1.mono HB.out.size)⟩
  have hC := isChoice_chosen hi
  rw [hi] at HFA hR
  have HC := Lib.hid hC
  have hR2 : Hid (pullsOf j l = (List.range nl).map (pullOf j l)) := hR.out
  have h5 : nl ≤ 5 := by have := hC.few; have := hC.same; rw [← HNl.out]; omega
  have hsame : Hid (nl = nE) := by unfold Hid; rw [← HNl.out, ← HNE.out]; exact hC.same
  clear hi hC hR
  obtain ⟨i0, hi0, hz0, hz1, hz2⟩ := info_parts info_int64
  go_enter Try.func26, Try.ntmps26
  go_wp2_with fail
  refine (HFA.out _ HB.out).mono ?_
  rintro e w0 ⟨rfl, hb0⟩
  replace B0 := Lib.hid (B0.out.under hb0)
  replace HB := Lib.hid (HB.out.trans (hb0.mono HB.out.size))
  have hlt0 := B0.out.lt
  clear hb0 HFA
  go_wp2_with fail
  go_loopw [5, 6] (fun s5 s6 wr => ∃ k : Nat, k ≤ nl ∧ s6 = .int .i64 k ∧ Hid (wr.ownsRow w0.heap.size 2 1 s5 k (((List.range k).map (pullOf j l)).map (Value.int .i64))) ∧ Hid (Below w0.heap.size w0 wr)) (fun _ s6 _ => nl - (intOf s6).toNat)
  case atStart => exact ⟨0, Nat.zero_le _, rfl, World.ownsRow_nil _ _ _ _, Below.refl _ _⟩
  case round =>
    obtain ⟨k, hk, rfl, hown, BW⟩ := hrel
    have BB := Lib.hid (HB.out.trans (BW.out.mono HB.out.size))
    by_cases hlt : k < nl
    · obtain ⟨q0, q1, q2, q3, q4⟩ := job_box (B0.out.under BW.out)
      have hov := HC.out.over
      obtain ⟨hov1, hov2⟩ := hov
      have d1 : decide (k < nl) = true := decide_eq_true hlt
      go_wp2_with fail
      clear q0 q1 q2 q3 q4 d1
      obtain ⟨wo, hwo⟩ : ∃ wo : World, wo = wr := ⟨_, rfl⟩
      rw [← hwo] at hown BW BB
      rw [← hwo]
      clear hwo
      go_loopw [7, 8] (fun s7 s8 wr => ∃ i : Nat, k ≤ i ∧ i ≤ nl ∧ s8 = .int .i64 i ∧ s7 = .int .i64 (j.Over + sumFrom (weightOf j l) k (i - k)) ∧ Hid (Below wo.heap.size wo wr)) (fun _ s8 _ => nl - (intOf s8).toNat)
      case atStart => exact ⟨k, Nat.le_refl _, by omega, rfl, by rw [Nat.sub_self]; simp [sumFrom], Below.refl _ _⟩
      case round =>
        obtain ⟨i, hki, hi, rfl, rfl, BV⟩ := hrel
        have BW2 := Lib.hid (BW.out.trans (BV.out.mono BW.out.size))
        have BB2 := Lib.hid (BB.out.trans (BV.out.mono BB.out.size))
        by_cases hlt2 : i < nl
        · have d1 : decide (i < nl) = true := decide_eq_true hlt2
          have hkl : i < l.length := by rw [HNl.out]; exact hlt2
          obtain ⟨lb, lo, rfl, hlb, hlc⟩ := HL.out (by omega)
          obtain ⟨eb, eo, rfl, heb, hec⟩ := HE.out (by have := HC.out.same; omega)
          obtain ⟨hg0, hg1⟩ := HC.out.grades i hkl
          obtain ⟨gb, go, rfl, hgb, hgc⟩ := HG.out (by omega)
          obtain ⟨_, _, _, gc3, _⟩ := hgc _ hg1
          have HC1 := Lib.hid (hlc i hkl)
          have HC2 := Lib.hid gc3
          have HC3 := Lib.hid (hec i (by have := HC.out.same; omega))
          clear hlc hec hgc gc3
          have hsec := HC.out.sec hkl
          have hcost := HC.out.weight hkl
          have hsum := sumFrom_bounds (weightOf j l) k (i - k) 1099511627776 (fun t _ ht => HC.out.weight (by omega))
          have h55 : ((i - k : Nat) : Int) * 1099511627776 ≤ 5 * 1099511627776 := Int.mul_le_mul_of_nonneg_right (by omega) (by omega)
          have hsl := Lib.hid (sumFrom_last (weightOf j l) k (i - k))
          have hdef : Hid (weightOf j l i = (gd j.Grades (pick l i).toNat).Weight * (pick j.Ends i - top j i)) := rfl
          rw [hdef.out] at hcost
          have hbd : Hid (bottom j i = pick j.Ends i) := rfl
          rw [hbd.out] at hsec
          have HBE := Lib.hid (HBG.out i · · (by rw [← hsame.out]; exact hlt2) (by rw [← hsame.out]; omega))
          have htop := HC.out.top0 i (by have := HC.out.same; omega)
          have hend := HC.out.ends i (by have := HC.out.same; omega)
          have htd : Hid (topOf j.Ends i = top j i) := rfl
          rw [htd.out] at htop
          have hgi : Hid (pick l i = ((pick l i).toNat : Int)) := by unfold Hid; omega
          have hgn : (pick l i).toNat < nG := by rw [← HNG.out]; exact hg1
          rw [hgi.out] at HC1
          clear hg0 hg1 hgi
          generalize (pick l i).toNat = gi at *
          generalize sumFrom (weightOf j l) k (i - k) = S at *
          generalize pick j.Ends i = ee at *
          generalize top j i = tt at *
          generalize (gd j.Grades gi).Weight = gcost at *
          obtain ⟨hc0, hc1⟩ := hcost
          obtain ⟨hs0, hs1⟩ := hsum
          obtain ⟨hsec0, hsec1⟩ := hsec
          obtain ⟨hend0, hend1⟩ := hend
          go_wp2_with fail
          obtain ⟨p0, p1, p2, p3, p4⟩ := job_box (B0.out.under BW2.out)
          have p5 := oldCell BB2.out hlb HC1.out
          have p6 := oldCell BB2.out hgb HC2.out
          have p7 := oldCell BB2.out heb HC3.out
          have z1 : IntKind.i64.wrap (ee - tt) = ee - tt := IntWalk.i64_in _ (by omega)
          have z2 : IntKind.i64.wrap (gcost * (ee - tt)) = gcost * (ee - tt) := IntWalk.i64_in _ (by omega)
          have z3 : IntKind.i64.wrap (j.Over + S + gcost * (ee - tt)) = j.Over + S + gcost * (ee - tt) := IntWalk.i64_in _ (by omega)
          have z4 : (i : Int) < (nl : Int) := by omega
          have z5 : (i : Int) < (nE : Int) := by rw [← hsame.out]; omega
          have z6 : (gi : Int) < (nG : Int) := by omega
          have z7 : (0 : Int) ≤ (gi : Int) := by omega
          have z8 : ((gi : Int)).toNat = gi := by omega
          have z9 : i < nE := by rw [← hsame.out]; exact hlt2
          clear hc0 hc1 hs0 hs1 hsec0 hsec1 hend0 hend1 htop h55
          go_region_held3 (fun w' => w'.cell? ⟨w.heap.size, 0, none⟩ = some (.slice (some ⟨eb, eo, none⟩) nE cE) ∧ w'.cell? ⟨w.heap.size, 1, none⟩ = some (.slice AL nL cL) ∧ w'.cell? ⟨w.heap.size, 2, none⟩ = some (.slice (some ⟨gb, go, none⟩) nG cG) ∧ w'.cell? ⟨w.heap.size, 3, none⟩ = some (.int .i64 j.Factor) ∧ w'.cell? ⟨w.heap.size, 4, none⟩ = some (.int .i64 j.Over) ∧ w'.cell? ⟨lb, lo + i, none⟩ = some (.int .i64 gi) ∧ w'.cell? ⟨gb, go + gi * 5 + 3, none⟩ = some (.int .i64 gcost) ∧ w'.cell? ⟨eb, eo + i, none⟩ = some (.int .i64 ee))
            (first | exact ⟨p0, p1, p2, p3, p4, p5, p6, p7⟩ | exact ⟨x0, x1, x2, x3, x4, x5, x6, x7⟩)
            (first
              | (go_at_call 54; refine (HBE.out _ BB2.out.drew).mono ?_; rintro e w3 ⟨rfl, hb3⟩; have BW3 := Lib.hid (BW2.out.drew.trans (hb3.mono BW2.out.drew.size)); have BB3 := Lib.hid (BB2.out.drew.trans (hb3.mono BB2.out.drew.size)); have BV3 := Lib.hid (BV.out.drew.trans (hb3.mono BV.out.drew.size)); obtain ⟨x0, x1, x2, x3, x4⟩ := job_box (B0.out.under BW3.out); have x5 := oldCell BB3.out hlb HC1.out; have x6 := oldCell BB3.out hgb HC2.out; have x7 := oldCell BB3.out heb HC3.out)
              | fail)
          go_wp2_with fail
          go_roundw
          case rel => exact ⟨i + 1, by omega, hlt2, by go_num, by rw [show i + 1 - k = (i - k) + 1 by omega, hsl.out, show k + (i - k) = i by omega, hdef.out, Int.add_assoc], BV3⟩
          case measure => simp [intOf]; omega
        · obtain rfl : i = nl := by omega
          have d1 : decide (i < i) = false := decide_eq_false (by omega)
          have hpk : Hid (j.Over + sumFrom (weightOf j l) k (i - k) = pullOf j l k) := (hpd.out k).symm
          rw [hpk.out]
          have O2 := Lib.hid (own_under hown.out BV.out)
          have hsz2 := BW2.out.size
          generalize hpke : pullOf j l k = pk at *
          have HPK := Lib.hid hpke
          clear hpke
          go_wp2_with (at_builtin; refine wpList_append_own _ rfl _ _ 32 rfl w0.heap.size 2 i0 (.int .i64 0) 1 8 Try.underlying32 hi0 hz0 hz1 hz2 rfl (by decide) _ _ _ rfl (O2.out.alloc _) ⟨wr.heap.size, 0, none⟩ 1 1 [.int .i64 pk] rfl rfl ?_ ?_ ?_ ?_ ?_ ?_)
          · exact cells_new wr [.int .i64 pk] 2
          · simp [Value.oneCell']
          · unfold maxLen; omega
          · omega
          · simp; omega
          intro v' w3 hown3 hg3 _
          have HO3 := Lib.hid hown3
          have HB3 := Lib.hid (below_grown (BW2.out.alloc hsz2 _) (O2.out.alloc _) hg3 (by simp; omega))
          clear hown3 hg3
          go_wp2_with fail
          go_roundw
          case rel => exact ⟨k + 1, hlt, by go_num, by unfold Hid; rw [List.range_succ, List.map_append, List.map_append]; simpa [HPK.out] using HO3.out, HB3.out⟩
          case measure => simp [intOf]; omega
    · obtain rfl : k = nl := by omega
      have d1 : decide (k < k) = false := decide_eq_false (by omega)
      obtain ⟨A', c', rfl, _, hI⟩ := Ints.own hown.out
      have HI := Lib.hid hI
      clear hI hown
      go_wp2_with fail
      go_ret
      rw [hR2.out]
      exact ⟨⟨A', c', rfl, HI.out⟩, BB.out⟩

end Go.Proofs.Ytannipfohicpmaa

/- Walks of the reference of layer 5: which section does not bear. -/
namespace Go.Proofs.Ytannipfohicpmaa
open Go.RowKit Go.Shelf Mpl

set_option maxHeartbeats 8000000 in
set_option maxRecDepth 100000 in
theorem ref05_Bears (j : Job) (l : List Int) (v0 : Value) (A : Option Addr) (c : Nat) (w : World) (hv : JobV w w.heap.size v0 j) (hl : Ints w w.heap.size A l) (hnl : l.length ≤ 1000) :
    Calls Try.prog 23 #[v0, .slice A l.length c] w fun e w' => e = .returned (.tuple #[.int .i64 (bears j l).1, .int .i64 (bears j l).2.1, .int .i64 (bears j l).2.2]) ∧ Below w.heap.size w w' := by
  have HV := Lib.hid hv
  obtain ⟨AE, cE, AL, cL, AG, cG, rfl, _, _, _, hG⟩ := hv
  have HL := Lib.hid hl
  have HG := Lib.hid hG
  have HCK := Lib.hid (fun W (hW : Below w.heap.size w W) => ref05_Check j _ W (HV.out.below hW))
  have HFA := Lib.hid (fun W (hW : Below w.heap.size w W) => ref05_fair j l _ A c W (HV.out.below hW) (hl.up hW hW.size) hnl)
  have HPU := Lib.hid (fun W (hW : Below w.heap.size w W) => ref05_Pulls j l _ A c W (HV.out.below hW) (hl.up hW hW.size) hnl)
  have HWY := Lib.hid (fun (hC : Chosen j l) (k g : Nat) (hk : k < l.length) (hg : g < j.Grades.length) W (hW : Below w.heap.size w W) => ref05_why j k (gd j.Grades g) (pullOf j l k) _ W (HV.out.below hW) (hC.fair g hg) (pullOf_bounds hC k).1 (pullOf_bounds hC k).2 hC.nload (by rw [← hC.same]; exact hk) (Nat.le_trans hC.few (by decide)))
  have hR : Hid (bears j l = if checkJob j ≠ 0 then (0, 0, checkJob j) else if !isChoice j l then (0, 0, 2) else ((bearsFrom j l 0 l.length).1, (bearsFrom j l 0 l.length).2, 0)) := rfl
  have hpl : Hid (isChoice j l = true → pullsOf j l = (List.range l.length).map (pullOf j l)) := by intro h; rw [pullsOf, if_pos h]
  have hst := Lib.hid (fun k => bearsFrom_step j l k l.length)
  have hwa : Hid (∀ k, whyAt j l k = why j (top j k) (bottom j k) (gd j.Grades (pick l k).toNat) (pullOf j l k)) := fun _ => rfl
  clear hl hG
  generalize j.Ends.length = nE at *
  generalize j.Loads.length = nL at *
  generalize hnG : j.Grades.length = nG at *
  generalize hnl' : l.length = nl at *
  have HNG := Lib.hid hnG
  have HNl := Lib.hid hnl'
  clear hnG hnl'
  have HB := Lib.hid ((Below.refl w.heap.size w).alloc (Nat.le_refl _) (.cells #[.slice AE nE cE, .slice AL nL cL, .slice AG nG cG, .int .i64 j.Factor, .int .i64 j.Over] 36))
  have B0 := Lib.hid (Box.new w 36 #[.slice AE nE cE, .slice AL nL cL, .slice AG nG cG, .int .i64 j.Factor, .int .i64 j.Over] rfl)
  generalize bears j l = res at *
  generalize checkJob j = r at *
  by_cases h1 : r = 0
  case neg =>
    have h1' : (r != 0) = true := by simpa using h1
    go_enter Try.func23, Try.ntmps23
    go_wp2_with fail
    refine (HCK.out _ HB.out).mono ?_
    rintro e w1 ⟨rfl, hb1⟩
    go_wp2_with fail
    refine bodyPost_ret (results_tmp3 rfl _ _ _) rfl ?_
    exact ⟨by rw [hR.out, if_pos h1]; rfl, HB.out.trans (hb1.mono HB.out.size)⟩
  subst h1
  cases hi : isChoice j l
  · rw [hi] at HFA hR
    clear hi hpl
    go_enter Try.func23, Try.ntmps23
    go_wp2_with fail
    refine (HCK.out _ HB.out).mono ?_
    rintro e w1 ⟨rfl, hb1⟩
    have HB1 := Lib.hid (HB.out.trans (hb1.mono HB.out.size))
    obtain ⟨q0, q1, q2, q3, q4⟩ := job_box (B0.out.under hb1)
    clear hb1
    go_wp2_with fail
    refine (HFA.out _ HB1.out).mono ?_
    rintro e w2 ⟨rfl, hb2⟩
    go_wp2_with fail
    refine bodyPost_ret (results_tmp3 rfl _ _ _) rfl ?_
    exact ⟨by rw [hR.out]; rfl, HB1.out.trans (hb2.mono HB1.out.size)⟩
  have hC := isChoice_chosen hi
  replace hpl := Lib.hid (hpl.out hi)
  replace HWY := Lib.hid (HWY.out hC)
  rw [hi] at HFA hR
  rw [hpl.out] at HPU
  have HC := Lib.hid hC
  have h5 : nl ≤ 5 := by have := hC.few; have := hC.same; rw [← HNl.out]; omega
  have hR2 : Hid (res = ((bearsFrom j l 0 nl).1, (bearsFrom j l 0 nl).2, 0)) := hR.out
  clear hi hC hR
  go_enter Try.func23, Try.ntmps23
  go_wp2_with fail
  refine (HCK.out _ HB.out).mono ?_
  rintro e w1 ⟨rfl, hb1⟩
  have HB1 := Lib.hid (HB.out.trans (hb1.mono HB.out.size))
  have B1 := Lib.hid (B0.out.under hb1)
  obtain ⟨q0, q1, q2, q3, q4⟩ := job_box B1.out
  clear hb1
  go_wp2_with fail
  refine (HFA.out _ HB1.out).mono ?_
  rintro e w2 ⟨rfl, hb2⟩
  have HB2 := Lib.hid (HB1.out.trans (hb2.mono HB1.out.size))
  have B2 := Lib.hid (B1.out.under hb2)
  clear hb2 q0 q1 q2 q3 q4
  obtain ⟨q0, q1, q2, q3, q4⟩ := job_box B2.out
  go_wp2_with fail
  refine (HPU.out _ HB2.out).mono ?_
  rintro e w3 ⟨⟨AP, cP, rfl, hP⟩, hb3⟩
  have HB3 := Lib.hid (HB2.out.trans (hb3.mono HB2.out.size))
  have B3 := Lib.hid (B2.out.under hb3)
  have HP := Lib.hid hP
  clear hb3 hP q0 q1 q2 q3 q4
  rw [show ((List.range nl).map (pullOf j l)).length = nl by simp]
  go_wp2_with fail
  go_loopw [9] (fun s9 wr => ∃ k : Nat, k ≤ nl ∧ s9 = .int .i64 k ∧ Hid (bearsFrom j l k (nl - k) = bearsFrom j l 0 nl) ∧ Hid (Below w3.heap.size w3 wr)) (fun s9 _ => nl - (intOf s9).toNat)
  case atStart => exact ⟨0, Nat.zero_le _, rfl, rfl, Below.refl _ _⟩
  case round =>
    obtain ⟨k, hk, rfl, hr, BW⟩ := hrel
    have BB := Lib.hid (HB3.out.trans (BW.out.mono HB3.out.size))
    by_cases hlt : k < nl
    · have t1 : decide (k < nl) = true := decide_eq_true hlt
      have hkl : k < l.length := by rw [HNl.out]; exact hlt
      obtain ⟨lb, lo, rfl, hlb, hlc⟩ := HL.out (by omega)
      obtain ⟨pb, po, rfl, hpb, hpc⟩ := HP.out (by simp; omega)
      obtain ⟨hg0, hg1⟩ := HC.out.grades k hkl
      obtain ⟨gb, go, rfl, hgb, hgc⟩ := HG.out (by omega)
      have GC := Lib.hid (hgc _ hg1)
      have LC := Lib.hid (hlc k hkl)
      have PC := Lib.hid (hpc k (by simp; omega))
      rw [pick_map nl (pullOf j l) k hlt] at PC
      have hsk := Lib.hid (hst.out k hlt)
      have hgi : Hid (pick l k = ((pick l k).toNat : Int)) := by unfold Hid; omega
      have hgn : (pick l k).toNat < nG := by rw [← HNG.out]; exact hg1
      have hwk := Lib.hid (hwa.out k)
      have HWK := Lib.hid (HWY.out k (pick l k).toNat hlt hgn)
      unfold gradeV at HWK
      rw [← hwk.out] at HWK
      rw [hgi.out] at LC
      clear hlc hpc hgc hg0 hg1 hgi hwk
      generalize (pick l k).toNat = gi at *
      generalize whyAt j l k = wy at *
      generalize pullOf j l k = pl at *
      generalize hgx : gd j.Grades gi = gx at *
      clear hgx
      go_wp2_with fail
      obtain ⟨p0, p1, p2, p3, p4⟩ := job_box (B3.out.under BW.out)
      have p5 := oldCell BB.out hlb LC.out
      have p6 := oldCell BW.out hpb PC.out
      have p7 := oldCell BB.out hgb GC.out.1
      have p8 := oldCell BB.out hgb GC.out.2.1
      have p9 := oldCell BB.out hgb GC.out.2.2.1
      have p10 := oldCell BB.out hgb GC.out.2.2.2.1
      have p11 := oldCell BB.out hgb GC.out.2.2.2.2
      have z1 : (k : Int) < (nl : Int) := by omega
      have z2 : (0 : Int) ≤ (k : Int) := by omega
      have z3 : ((k : Int)).toNat = k := by omega
      have z4 : (gi : Int) < (nG : Int) := by omega
      have z5 : (0 : Int) ≤ (gi : Int) := by omega
      have z6 : ((gi : Int)).toNat = gi := by omega
      go_region_held3 (fun w' => w'.cell? ⟨w.heap.size, 0, none⟩ = some (.slice AE nE cE) ∧ w'.cell? ⟨w.heap.size, 1, none⟩ = some (.slice AL nL cL) ∧ w'.cell? ⟨w.heap.size, 2, none⟩ = some (.slice (some ⟨gb, go, none⟩) nG cG) ∧ w'.cell? ⟨w.heap.size, 3, none⟩ = some (.int .i64 j.Factor) ∧ w'.cell? ⟨w.heap.size, 4, none⟩ = some (.int .i64 j.Over) ∧ w'.cell? ⟨lb, lo + k, none⟩ = some (.int .i64 gi) ∧ w'.cell? ⟨pb, po + k, none⟩ = some (.int .i64 pl) ∧ w'.cell? ⟨gb, go + gi * 5, none⟩ = some (.int .i64 gx.Burst) ∧ w'.cell? ⟨gb, go + gi * 5 + 1, none⟩ = some (.int .i64 gx.Collapse) ∧ w'.cell? ⟨gb, go + gi * 5 + 2, none⟩ = some (.int .i64 gx.Pull) ∧ w'.cell? ⟨gb, go + gi * 5 + 3, none⟩ = some (.int .i64 gx.Weight) ∧ w'.cell? ⟨gb, go + gi * 5 + 4, none⟩ = some (.int .i64 gx.Cost))
        (first | exact ⟨p0, p1, p2, p3, p4, p5, p6, p7, p8, p9, p10, p11⟩ | exact ⟨x0, x1, x2, x3, x4, x5, x6, x7, x8, x9, x10, x11⟩)
        (first
          | (go_at_call 52; refine (HWK.out _ BB.out.drew).mono ?_; rintro e w5 ⟨rfl, hb5⟩; have BW5 := Lib.hid (BW.out.drew.trans (hb5.mono BW.out.drew.size)); have BB5 := Lib.hid (BB.out.drew.trans (hb5.mono BB.out.drew.size)); clear hb5; obtain ⟨x0, x1, x2, x3, x4⟩ := job_box (B3.out.under BW5.out); have x5 := oldCell BB5.out hlb LC.out; have x6 := oldCell BW5.out hpb PC.out; have x7 := oldCell BB5.out hgb GC.out.1; have x8 := oldCell BB5.out hgb GC.out.2.1; have x9 := oldCell BB5.out hgb GC.out.2.2.1; have x10 := oldCell BB5.out hgb GC.out.2.2.2.1; have x11 := oldCell BB5.out hgb GC.out.2.2.2.2)
          | fail)
      by_cases hq : wy = 0
      · have hq' : (wy != 0) = false := by simp [hq]
        have hnext : Hid (bearsFrom j l (k + 1) (nl - (k + 1)) = bearsFrom j l 0 nl) := by unfold Hid; rw [← hr.out, hsk.out, if_neg (by simp [hq])]
        go_wp2_with fail
        go_roundw
        case rel => exact ⟨k + 1, hlt, by go_num, hnext.out, BW5.out⟩
        case measure => simp [intOf]; omega
      · have hq' : (wy != 0) = true := by simpa using hq
        have hfin : Hid (res = ((k : Int), wy, 0)) := by unfold Hid; rw [hR2.out, ← hr.out, hsk.out, if_pos hq]
        go_wp2_with fail
        refine bodyPost_ret (results_tmp3 rfl _ _ _) rfl ?_
        exact ⟨by rw [hfin.out]; rfl, BB5.out⟩
    · obtain rfl : k = nl := by omega
      have t1 : decide (k < k) = false := decide_eq_false (by omega)
      have hfin : Hid (res = (-1, 0, 0)) := by unfold Hid; rw [hR2.out, ← hr.out, Nat.sub_self, bearsFrom]
      go_wp2_with fail
      refine bodyPost_ret (results_tmp3 rfl _ _ _) rfl ?_
      exact ⟨by rw [hfin.out]; rfl, BB.out⟩

end Go.Proofs.Ytannipfohicpmaa

/- Walks of the laws of layer 5: a small job. -/
namespace Go.Proofs.Ytannipfohicpmaa
open Go.RowKit Go.Shelf Mpl

def shortLoad (l : Stress) : Bool := decide (l.In.length ≤ 26) && decide (l.Out.length ≤ 26)
def smallJob (j : Job) : Bool := decide (j.Ends.length ≤ 7) && decide (j.Loads.length ≤ 8) && decide (j.Grades.length ≤ 8) && j.Loads.all shortLoad

theorem all_from {α : Type} (q : α → Bool) (l : List α) (k : Nat) (h : k < l.length) : (l.drop k).all q = (q l[k] && (l.drop (k + 1)).all q) := by
  rw [List.drop_eq_getElem_cons h, List.all_cons]

set_option maxHeartbeats 4000000 in
theorem law05_small (j : Job) (v0 : Value) (w : World) (hv : JobV w w.heap.size v0 j) :
    Calls Try.prog 21 #[v0] w fun e w' => e = .returned (.bool (smallJob j)) ∧ Below w.heap.size w w' := by
  obtain ⟨AE, cE, AL, cL, AG, cG, rfl, _, _, hL, _⟩ := hv
  have HL := Lib.hid hL
  have hR : Hid (smallJob j = (decide (j.Ends.length ≤ 7) && decide (j.Loads.length ≤ 8) && decide (j.Grades.length ≤ 8) && j.Loads.all shortLoad)) := rfl
  clear hL
  generalize smallJob j = res at *
  generalize j.Ends.length = nE at *
  generalize hnL : j.Loads.length = nL at *
  generalize j.Grades.length = nG at *
  have HNL := Lib.hid hnL
  clear hnL
  have HB := Lib.hid ((Below.refl w.heap.size w).alloc (Nat.le_refl _) (.cells #[.slice AE nE cE, .slice AL nL cL, .slice AG nG cG, .int .i64 j.Factor, .int .i64 j.Over] 36))
  have B0 := Lib.hid (Box.new w 36 #[.slice AE nE cE, .slice AL nL cL, .slice AG nG cG, .int .i64 j.Factor, .int .i64 j.Over] rfl)
  by_cases h1 : nE ≤ 7
  case neg =>
    have t1 : decide ((7 : Int) < (nE : Int)) = true := decide_eq_true (by omega)
    have t1' : decide (7 < nE) = true := decide_eq_true (by omega)
    have hf : Hid (false = res) := by unfold Hid; rw [hR.out, decide_eq_false h1]; rfl
    go_enter Try.func21, Try.ntmps21
    go_wp2_with fail
    go_ret
    exact ⟨ret_bool hf.out, HB.out⟩
  have t1 : decide ((7 : Int) < (nE : Int)) = false := decide_eq_false (by omega)
  have t1' : decide (7 < nE) = false := decide_eq_false (by omega)
  by_cases h2 : nL ≤ 8
  case neg =>
    have t2 : decide ((8 : Int) < (nL : Int)) = true := decide_eq_true (by omega)
    have t2' : decide (8 < nL) = true := decide_eq_true (by omega)
    have hf : Hid (false = res) := by unfold Hid; rw [hR.out, decide_eq_false h2]; simp
    go_enter Try.func21, Try.ntmps21
    go_wp2_with fail
    go_ret
    exact ⟨ret_bool hf.out, HB.out⟩
  have t2 : decide ((8 : Int) < (nL : Int)) = false := decide_eq_false (by omega)
  have t2' : decide (8 < nL) = false := decide_eq_false (by omega)
  by_cases h3 : nG ≤ 8
  case neg =>
    have t3 : decide ((8 : Int) < (nG : Int)) = true := decide_eq_true (by omega)
    have t3' : decide (8 < nG) = true := decide_eq_true (by omega)
    have hf : Hid (false = res) := by unfold Hid; rw [hR.out, decide_eq_false h3]; simp
    go_enter Try.func21, Try.ntmps21
    go_wp2_with fail
    go_ret
    exact ⟨ret_bool hf.out, HB.out⟩
  have t3 : decide ((8 : Int) < (nG : Int)) = false := decide_eq_false (by omega)
  have t3' : decide (8 < nG) = false := decide_eq_false (by omega)
  have hR2 : Hid (j.Loads.all shortLoad = res) := by unfold Hid; rw [hR.out, decide_eq_true h1, decide_eq_true h2, decide_eq_true h3]; rfl
  clear hR
  go_enter Try.func21, Try.ntmps21
  go_wp2_with fail
  clear t1 t2 t3 t1' t2' t3'
  obtain ⟨w1, hw1⟩ : ∃ w1, w.alloc (.cells #[.slice AE nE cE, .slice AL nL cL, .slice AG nG cG, .int .i64 j.Factor, .int .i64 j.Over] 36) = w1 := ⟨_, rfl⟩
  rw [hw1] at HB B0
  rw [hw1]
  clear hw1
  go_loopw [3] (fun s3 wr => ∃ k : Nat, k ≤ nL ∧ s3 = .int .i64 k ∧ Hid ((j.Loads.drop k).all shortLoad = res) ∧ Hid (Below w1.heap.size w1 wr)) (fun s3 _ => nL - (intOf s3).toNat)
  case atStart => exact ⟨0, Nat.zero_le _, rfl, hR2, Below.refl _ _⟩
  case round =>
    obtain ⟨k, hk, rfl, hr, BW⟩ := hrel
    have BB := Lib.hid (HB.out.trans (BW.out.mono HB.out.size))
    obtain ⟨_, p1, _, _, _⟩ := job_box (B0.out.under BW.out)
    by_cases hlt : k < nL
    · have t1 : decide (k < nL) = true := decide_eq_true hlt
      have hkl : k < j.Loads.length := by rw [HNL.out]; exact hlt
      obtain ⟨b, off, AI, AO, cI, cO, rfl, hb, hc⟩ := HL.out (by omega)
      obtain ⟨c0, c1, hk0, hk1⟩ := hc k hkl
      clear hc
      have d0 := oldCell BB.out hb c0
      have d1 := oldCell BB.out hb c1
      clear c0 c1
      have hstep := Lib.hid (all_from shortLoad j.Loads k hkl)
      have hld : ld j.Loads k = j.Loads[k] := by simp [ld, hkl]
      rw [← hld] at hstep
      have HSV : Hid (StressV w w.heap.size (.agg #[.slice (AI k) (ld j.Loads k).In.length (cI k), .slice (AO k) (ld j.Loads k).Out.length (cO k)]) (ld j.Loads k)) := ⟨AI k, cI k, AO k, cO k, rfl, hk0, hk1⟩
      clear hk0 hk1 hld hkl
      have HSH := Lib.hid (fun W (hW : Below w.heap.size w W) => law05_short (ld j.Loads k) _ W (HSV.out.below hW))
      clear HSV
      have hsd : Hid (shortLoad (ld j.Loads k) = (decide ((ld j.Loads k).In.length ≤ 26) && decide ((ld j.Loads k).Out.length ≤ 26))) := rfl
      rw [← hsd.out] at HSH
      clear hsd
      generalize (ld j.Loads k).In.length = n0 at *
      generalize (ld j.Loads k).Out.length = n1 at *
      cases hq : shortLoad (ld j.Loads k)
      · rw [hq] at HSH hstep
        clear hq
        have hf : Hid (false = res) := by unfold Hid; rw [← hr.out, hstep.out]; rfl
        go_wp2_with fail
        refine (HSH.out _ BB.out).mono ?_
        rintro e w5 ⟨rfl, hb5⟩
        go_wp2_with fail
        go_ret
        exact ⟨ret_bool hf.out, BB.out.trans (hb5.mono BB.out.size)⟩
      · rw [hq] at HSH hstep
        clear hq
        have hn : Hid ((j.Loads.drop (k + 1)).all shortLoad = res) := by unfold Hid; rw [← hr.out, hstep.out]; rfl
        go_wp2_with fail
        refine (HSH.out _ BB.out).mono ?_
        rintro e w5 ⟨rfl, hb5⟩
        go_wp2_with fail
        go_roundw
        case rel => exact ⟨k + 1, hlt, by go_num, hn, BW.out.trans (hb5.mono BW.out.size)⟩
        case measure => simp [intOf]; omega
    · have t1 : decide (k < nL) = false := decide_eq_false hlt
      have hf : Hid (true = res) := by unfold Hid; rw [← hr.out, List.drop_eq_nil_of_le (by rw [HNL.out]; omega)]; rfl
      go_wp2_with fail
      go_ret
      exact ⟨ret_bool hf.out, BB.out⟩

end Go.Proofs.Ytannipfohicpmaa

/- Walks of the kit: two rows alike. -/
namespace Go.Proofs.Ytannipfohicpmaa
open Go.RowKit Go.Shelf Mpl

theorem same_step {x y : List Int} {k : Nat} (hx : k < x.length) (hy : k < y.length) : (x.drop k = y.drop k) ↔ (pick x k = pick y k ∧ x.drop (k + 1) = y.drop (k + 1)) := by
  rw [List.drop_eq_getElem_cons hx, List.drop_eq_getElem_cons hy, pick_get x k hx, pick_get y k hy]
  exact List.cons_eq_cons

set_option maxHeartbeats 4000000 in
theorem kit_SameInts (x y : List Int) (A B : Option Addr) (c d : Nat) (w : World) (hx : Ints w w.heap.size A x) (hy : Ints w w.heap.size B y) (hnx : x.length ≤ 1000) (hny : y.length ≤ 1000) :
    Calls Try.prog 29 #[.slice A x.length c, .slice B y.length d] w fun e w' => e = .returned (.bool (decide (x = y))) ∧ Below w.heap.size w w' := by
  have HX := Lib.hid hx
  have HY := Lib.hid hy
  have hst := Lib.hid (fun k => same_step (x := x) (y := y) (k := k))
  generalize hres : decide (x = y) = res
  have HR := Lib.hid hres
  clear hx hy hres
  generalize hn0 : x.length = n0 at *
  generalize hn1 : y.length = n1 at *
  have HN0 := Lib.hid hn0
  have HN1 := Lib.hid hn1
  clear hn0 hn1
  go_enter Try.func29, Try.ntmps29
  go_wp2_with fail
  go_loopw [5] (fun s5 wr => ∃ k : Nat, k ≤ n0 ∧ k ≤ n1 ∧ s5 = .int .i64 k ∧ Hid (decide (x.drop k = y.drop k) = res) ∧ Hid (Below w.heap.size w wr)) (fun s5 _ => n0 - (intOf s5).toNat)
  case atStart => exact ⟨0, Nat.zero_le _, Nat.zero_le _, rfl, HR, Below.refl _ _⟩
  case round =>
    obtain ⟨k, hk0, hk1, rfl, hr, BW⟩ := hrel
    by_cases h0 : k < n0
    · have t0 : decide (k < n0) = true := decide_eq_true h0
      by_cases h1 : k < n1
      · have t1 : decide (k < n1) = true := decide_eq_true h1
        have hs := Lib.hid (hst.out k h0 h1)
        obtain ⟨ab, ao, rfl, hab, hac⟩ := HX.out (by rw [HN0.out]; omega)
        obtain ⟨bb, bo, rfl, hbb, hbc⟩ := HY.out (by rw [HN1.out]; omega)
        have c0 := oldCell BW.out hab (hac k (by rw [HN0.out]; exact h0))
        have c1 := oldCell BW.out hbb (hbc k (by rw [HN1.out]; exact h1))
        clear hac hbc
        generalize pick x k = a at *
        generalize pick y k = b at *
        by_cases hq : a = b
        · have hq' : (a != b) = false := by simp [hq]
          have hn : Hid (decide (x.drop (k + 1) = y.drop (k + 1)) = res) := by unfold Hid; rw [← hr.out]; exact decide_eq_decide.2 ⟨fun h => hs.out.2 ⟨hq, h⟩, fun h => (hs.out.1 h).2⟩
          clear hq
          go_wp2_with fail
          go_quiet (fail)
          go_wp2_with fail
          go_roundw
          case rel => exact ⟨k + 1, h0, h1, by go_num, hn, belowDrewN BW.out _⟩
          case measure => simp [intOf]; omega
        · have hq' : (a != b) = true := by simpa using hq
          have hf : Hid (false = res) := by unfold Hid; rw [← hr.out]; exact (decide_eq_false fun h => hq (hs.out.1 h).1).symm
          go_wp2_with fail
          go_quiet (fail)
          go_wp2_with fail
          go_ret
          exact ⟨ret_bool hf.out, belowDrewN BW.out _⟩
      · obtain rfl : k = n1 := by omega
        have t1 : decide (k < k) = false := decide_eq_false h1
        have t2 : ((n0 : Int) == (k : Int)) = false := beq_eq_false_iff_ne.2 (by omega)
        have t2' : (n0 == k) = false := beq_eq_false_iff_ne.2 (by omega)
        have hf : Hid (false = res) := by
          unfold Hid; rw [← hr.out]
          refine (decide_eq_false fun h => ?_).symm
          have := congrArg List.length h
          simp [HN0.out, HN1.out] at this
          omega
        go_wp2_with fail
        go_ret
        exact ⟨ret_bool hf.out, BW.out⟩
    · obtain rfl : k = n0 := by omega
      have t0 : decide (k < k) = false := decide_eq_false h0
      by_cases h1 : k = n1
      · subst h1
        have hf : Hid (true = res) := by
          unfold Hid; rw [← hr.out, List.drop_eq_nil_of_le (by rw [HN0.out]; omega), List.drop_eq_nil_of_le (by rw [HN1.out]; omega)]; rfl
        go_wp2_with fail
        go_ret
        exact ⟨ret_bool hf.out, BW.out⟩
      · have t2 : ((k : Int) == (n1 : Int)) = false := beq_eq_false_iff_ne.2 (by omega)
        have t2' : (k == n1) = false := beq_eq_false_iff_ne.2 (by omega)
        have hf : Hid (false = res) := by
          unfold Hid; rw [← hr.out]
          refine (decide_eq_false fun h => ?_).symm
          have := congrArg List.length h
          simp [HN0.out, HN1.out] at this
          omega
        go_wp2_with fail
        go_ret
        exact ⟨ret_bool hf.out, BW.out⟩

set_option maxHeartbeats 4000000 in
theorem kit_SameLongs (x y : List Int) (A B : Option Addr) (c d : Nat) (w : World) (hx : Ints w w.heap.size A x) (hy : Ints w w.heap.size B y) (hnx : x.length ≤ 1000) (hny : y.length ≤ 1000) :
    Calls Try.prog 24 #[.slice A x.length c, .slice B y.length d] w fun e w' => e = .returned (.bool (decide (x = y))) ∧ Below w.heap.size w w' := by
  have HX := Lib.hid hx
  have HY := Lib.hid hy
  have hst := Lib.hid (fun k => same_step (x := x) (y := y) (k := k))
  generalize hres : decide (x = y) = res
  have HR := Lib.hid hres
  clear hx hy hres
  generalize hn0 : x.length = n0 at *
  generalize hn1 : y.length = n1 at *
  have HN0 := Lib.hid hn0
  have HN1 := Lib.hid hn1
  clear hn0 hn1
  go_enter Try.func24, Try.ntmps24
  go_wp2_with fail
  go_loopw [5] (fun s5 wr => ∃ k : Nat, k ≤ n0 ∧ k ≤ n1 ∧ s5 = .int .i64 k ∧ Hid (decide (x.drop k = y.drop k) = res) ∧ Hid (Below w.heap.size w wr)) (fun s5 _ => n0 - (intOf s5).toNat)
  case atStart => exact ⟨0, Nat.zero_le _, Nat.zero_le _, rfl, HR, Below.refl _ _⟩
  case round =>
    obtain ⟨k, hk0, hk1, rfl, hr, BW⟩ := hrel
    by_cases h0 : k < n0
    · have t0 : decide (k < n0) = true := decide_eq_true h0
      by_cases h1 : k < n1
      · have t1 : decide (k < n1) = true := decide_eq_true h1
        have hs := Lib.hid (hst.out k h0 h1)
        obtain ⟨ab, ao, rfl, hab, hac⟩ := HX.out (by rw [HN0.out]; omega)
        obtain ⟨bb, bo, rfl, hbb, hbc⟩ := HY.out (by rw [HN1.out]; omega)
        have c0 := oldCell BW.out hab (hac k (by rw [HN0.out]; exact h0))
        have c1 := oldCell BW.out hbb (hbc k (by rw [HN1.out]; exact h1))
        clear hac hbc
        generalize pick x k = a at *
        generalize pick y k = b at *
        by_cases hq : a = b
        · have hq' : (a != b) = false := by simp [hq]
          have hn : Hid (decide (x.drop (k + 1) = y.drop (k + 1)) = res) := by unfold Hid; rw [← hr.out]; exact decide_eq_decide.2 ⟨fun h => hs.out.2 ⟨hq, h⟩, fun h => (hs.out.1 h).2⟩
          clear hq
          go_wp2_with fail
          go_quiet (fail)
          go_wp2_with fail
          go_roundw
          case rel => exact ⟨k + 1, h0, h1, by go_num, hn, belowDrewN BW.out _⟩
          case measure => simp [intOf]; omega
        · have hq' : (a != b) = true := by simpa using hq
          have hf : Hid (false = res) := by unfold Hid; rw [← hr.out]; exact (decide_eq_false fun h => hq (hs.out.1 h).1).symm
          go_wp2_with fail
          go_quiet (fail)
          go_wp2_with fail
          go_ret
          exact ⟨ret_bool hf.out, belowDrewN BW.out _⟩
      · obtain rfl : k = n1 := by omega
        have t1 : decide (k < k) = false := decide_eq_false h1
        have t2 : ((n0 : Int) == (k : Int)) = false := beq_eq_false_iff_ne.2 (by omega)
        have t2' : (n0 == k) = false := beq_eq_false_iff_ne.2 (by omega)
        have hf : Hid (false = res) := by
          unfold Hid; rw [← hr.out]
          refine (decide_eq_false fun h => ?_).symm
          have := congrArg List.length h
          simp [HN0.out, HN1.out] at this
          omega
        go_wp2_with fail
        go_ret
        exact ⟨ret_bool hf.out, BW.out⟩
    · obtain rfl : k = n0 := by omega
      have t0 : decide (k < k) = false := decide_eq_false h0
      by_cases h1 : k = n1
      · subst h1
        have hf : Hid (true = res) := by
          unfold Hid; rw [← hr.out, List.drop_eq_nil_of_le (by rw [HN0.out]; omega), List.drop_eq_nil_of_le (by rw [HN1.out]; omega)]; rfl
        go_wp2_with fail
        go_ret
        exact ⟨ret_bool hf.out, BW.out⟩
      · have t2 : ((k : Int) == (n1 : Int)) = false := beq_eq_false_iff_ne.2 (by omega)
        have t2' : (k == n1) = false := beq_eq_false_iff_ne.2 (by omega)
        have hf : Hid (false = res) := by
          unfold Hid; rw [← hr.out]
          refine (decide_eq_false fun h => ?_).symm
          have := congrArg List.length h
          simp [HN0.out, HN1.out] at this
          omega
        go_wp2_with fail
        go_ret
        exact ⟨ret_bool hf.out, BW.out⟩

end Go.Proofs.Ytannipfohicpmaa
