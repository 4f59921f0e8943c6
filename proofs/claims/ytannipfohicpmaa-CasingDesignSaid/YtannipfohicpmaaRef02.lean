/- Walks of the reference of layer 2: lines are checked. -/
import Derived.Test.YtannipfohicpmaaProven
import Derived.Deep.QuietTactic
import Derived.BigQuiet
namespace Go.Proofs.Ytannipfohicpmaa
open Go.RowKit Go.Shelf Mpl

def lastOf (ks : List Knot) (k : Nat) : Int := if k = 0 then -1 else (kn ks (k - 1)).At

set_option maxHeartbeats 4000000 in
set_option maxRecDepth 100000 in
theorem ref02_CheckLine_loop (ks : List Knot) (b off : Nat) (c : Nat) (at_ v : Int) (w : World) (hb : b < w.heap.size)
    (hk : ∀ i, i < ks.length → w.cell? ⟨b, off + i * 2, none⟩ = some (.int .i64 (kn ks i).At) ∧ w.cell? ⟨b, off + i * 2 + 1, none⟩ = some (.int .i64 (kn ks i).V))
    (h0 : 0 < ks.length) (h24 : ks.length ≤ 24) (h1 : 0 ≤ at_) (h2 : at_ ≤ 1099511627776) (h3 : 0 ≤ v) (h4 : v ≤ 68719476736) :
    Calls Try.prog 101 #[.agg #[.slice (some ⟨b, off, none⟩) ks.length c], .int .i64 at_, .int .i64 v] w fun e w' => e = .returned (.int .i64 (checkKnots at_ v (-1) ks)) ∧ Below w.heap.size w w' := by
  have HK := Lib.hid hk
  clear hk
  generalize hn : ks.length = n at *
  have HN := Lib.hid hn
  clear hn
  generalize hres : checkKnots at_ v (-1) ks = res at *
  have HR := Lib.hid hres
  clear hres
  have hz : ((n : Int) == 0) = false := by simp; omega
  have hz2 : decide ((24 : Int) < (n : Int)) = false := by simp; omega
  have d1 : decide (at_ < 0) = false := decide_eq_false (by omega)
  have d2 : decide (1099511627776 < at_) = false := decide_eq_false (by omega)
  have d3 : decide (v < 0) = false := decide_eq_false (by omega)
  have d4 : decide (68719476736 < v) = false := decide_eq_false (by omega)
  obtain ⟨w0, hw0⟩ : ∃ w0, w.alloc (.cells #[.slice (some ⟨b, off, none⟩) n c] 24) = w0 := ⟨_, rfl⟩
  have b0 : Box w0 w.heap.size 24 #[.slice (some ⟨b, off, none⟩) n c] := by rw [← hw0]; exact Box.new _ _ _ rfl
  have hB0 : Below w.heap.size w w0 := by rw [← hw0]; exact (by repeat (first | exact Below.refl _ _ | assumption | refine Below.setCell ?_ (by first | (simp; done) | (simp; omega)) _ | refine belowDrewN ?_ _ | refine Below.drew ?_ | refine Below.alloc ?_ (by first | (simp; done) | (simp; omega)) _))
  have HW0 := Lib.hid hw0
  clear hw0
  go_enter Try.func101, Try.ntmps101
  go_wp2_with fail
  rw [HW0.out]
  go_loopw [7] (fun i wr => ∃ (k : Nat), k ≤ n ∧ i = .int .i64 k ∧ Hid (checkKnots at_ v (lastOf ks k) (ks.drop k) = res) ∧ Hid (Below w0.heap.size w0 wr)) (fun i _ => n - (intOf i).toNat)
  case atStart => exact ⟨0, Nat.zero_le _, rfl, HR, Below.refl _ _⟩
  case round =>
    obtain ⟨k, hk, rfl, hr, BW⟩ := hrel
    have hbl := Lib.hid (hB0.trans (BW.out.mono hB0.size))
    have hsz := hbl.out.size
    have hlt0 := b0.lt
    have hsz0 := BW.out.size
    have hlw : w.heap.size < wr.heap.size := by omega
    have hbw : b < wr.heap.size := by omega
    have q0 := (b0.under BW.out).cell 0
    simp only [List.getElem?_toArray, List.getElem?_cons_zero] at q0
    by_cases hlt : k < n
    · obtain ⟨c0, c1⟩ := HK.out k hlt
      have e0 := oldCell hbl.out hb c0
      have e1 := oldCell hbl.out hb c1
      clear c0 c1
      have hst := Lib.hid (checkKnots_step at_ v (lastOf ks k) ks k (by rw [HN.out]; exact hlt))
      have hlast : Hid (lastOf ks (k + 1) = (kn ks k).At) := by unfold Hid; simp [lastOf]
      have hw1 : Hid (within (kn ks k).At 0 at_ = decide (0 ≤ (kn ks k).At ∧ (kn ks k).At ≤ at_)) := rfl
      have hw2 : Hid (within (kn ks k).V 0 v = decide (0 ≤ (kn ks k).V ∧ (kn ks k).V ≤ v)) := rfl
      have hl0 : Hid (k = 0 → lastOf ks k = -1) := fun h => by simp [lastOf, h]
      have hl1 : Hid (0 < k → lastOf ks k = (kn ks (k - 1)).At) := fun h => by simp [lastOf, show k ≠ 0 by omega]
      generalize lastOf ks k = la at *
      generalize (kn ks k).At = ka at *
      generalize (kn ks k).V = kv at *
      by_cases g : 0 ≤ ka ∧ ka ≤ at_ ∧ 0 ≤ kv ∧ kv ≤ v
      case neg =>
        have hf : Hid (res = 2) := by
          unfold Hid
          rw [← hr.out, hst.out, if_neg]
          rw [hw1.out, hw2.out]
          simp
          omega
        have gc : ka < 0 ∨ (0 ≤ ka ∧ at_ < ka) ∨ (0 ≤ ka ∧ ka ≤ at_ ∧ kv < 0) ∨ (0 ≤ ka ∧ ka ≤ at_ ∧ 0 ≤ kv ∧ v < kv) := by omega
        clear g
        rcases gc with g1 | ⟨g1, g2⟩ | ⟨g1, g2, g3⟩ | ⟨g1, g2, g3, g4⟩
        · have f1 : decide (ka < 0) = true := decide_eq_true g1
          go_wp2_with fail
          go_ret
          exact ⟨ret_int hf.out.symm, hbl.out.alloc hsz _⟩
        · have f1 : decide (ka < 0) = false := decide_eq_false (by omega)
          have f2 : decide (at_ < ka) = true := decide_eq_true g2
          go_wp2_with fail
          go_ret
          exact ⟨ret_int hf.out.symm, hbl.out.alloc hsz _⟩
        · have f1 : decide (ka < 0) = false := decide_eq_false (by omega)
          have f2 : decide (at_ < ka) = false := decide_eq_false (by omega)
          have f3 : decide (kv < 0) = true := decide_eq_true g3
          go_wp2_with fail
          go_ret
          exact ⟨ret_int hf.out.symm, hbl.out.alloc hsz _⟩
        · have f1 : decide (ka < 0) = false := decide_eq_false (by omega)
          have f2 : decide (at_ < ka) = false := decide_eq_false (by omega)
          have f3 : decide (kv < 0) = false := decide_eq_false (by omega)
          have f4 : decide (v < kv) = true := decide_eq_true g4
          go_wp2_with fail
          go_ret
          exact ⟨ret_int hf.out.symm, hbl.out.alloc hsz _⟩
      obtain ⟨g1, g2, g3, g4⟩ := g
      have f1 : decide (ka < 0) = false := decide_eq_false (by omega)
      have f2 : decide (at_ < ka) = false := decide_eq_false (by omega)
      have f3 : decide (kv < 0) = false := decide_eq_false (by omega)
      have f4 : decide (v < kv) = false := decide_eq_false (by omega)
      have hgo : Hid (res = if ka ≤ la then 11 else checkKnots at_ v ka (ks.drop (k + 1))) := by
        unfold Hid
        rw [← hr.out, hst.out, hw1.out, hw2.out, if_pos (by simp [g1, g2, g3, g4])]
      by_cases hk0 : k = 0
      · have hla := hl0.out hk0
        have hgo2 : Hid (checkKnots at_ v ka (ks.drop (k + 1)) = res) := by unfold Hid; rw [hgo.out, if_neg (by omega)]
        subst hk0
        clear hla
        simp only [Nat.zero_mul, Nat.add_zero] at e0 e1
        go_wp2_with fail
        go_quiet (fail)
        go_wp2_with fail
        go_roundw
        case rel => exact ⟨0 + 1, hlt, by go_num, by unfold Hid; rw [hlast.out]; exact hgo2.out, belowDrewN (BW.out.alloc hsz0 _) _⟩
        case measure => simp [intOf]; omega
      · obtain ⟨c2, _⟩ := HK.out (k - 1) (by omega)
        have e2 := oldCell hbl.out hb c2
        rw [← hl1.out (by omega)] at e2
        clear c2
        have hkp : 0 < k := by omega
        have hkp' : decide ((0 : Int) < (k : Int)) = true := decide_eq_true (by omega)
        clear hk0
        by_cases g5 : ka ≤ la
        · have f5 : decide (ka ≤ la) = true := decide_eq_true g5
          have hf : Hid (res = 11) := by unfold Hid; rw [hgo.out, if_pos g5]
          go_wp2_with fail
          go_quiet (fail)
          go_wp2_with fail
          go_ret
          exact ⟨ret_int hf.out.symm, belowDrewN (hbl.out.alloc hsz _) _⟩
        · have f5 : decide (ka ≤ la) = false := decide_eq_false g5
          have hgo2 : Hid (checkKnots at_ v ka (ks.drop (k + 1)) = res) := by unfold Hid; rw [hgo.out, if_neg g5]
          go_wp2_with fail
          go_quiet (fail)
          go_wp2_with fail
          go_roundw
          case rel => exact ⟨k + 1, hlt, by go_num, by unfold Hid; rw [hlast.out]; exact hgo2.out, belowDrewN (BW.out.alloc hsz0 _) _⟩
          case measure => simp [intOf]; omega
    · go_wp2_with fail
      go_ret
      exact ⟨by rw [← hr.out, List.drop_eq_nil_of_le (by rw [HN.out]; omega)]; rfl, hbl.out⟩

end Go.Proofs.Ytannipfohicpmaa
