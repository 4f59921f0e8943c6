/- Walks of the kit: two rows alike. -/
import Derived.Test.YtbbgbidpglhkfaaChoice
import Derived.Test.YtbbgbidpglhkfaaExtreme
namespace Go.Proofs.Ytbbgbidpglhkfaa
open Go.RowKit Go.Shelf Mpl

theorem same_step {x y : List Int} {k : Nat} (hx : k < x.length) (hy : k < y.length) : (x.drop k = y.drop k) ↔ (pick x k = pick y k ∧ x.drop (k + 1) = y.drop (k + 1)) := by
  rw [List.drop_eq_getElem_cons hx, List.drop_eq_getElem_cons hy, pick_get x k hx, pick_get y k hy]
  exact List.cons_eq_cons

set_option maxHeartbeats 4000000 in
theorem kit_SameInts (x y : List Int) (A B : Option Addr) (c d : Nat) (w : World) (hx : Ints w w.heap.size A x) (hy : Ints w w.heap.size B y) (hnx : x.length ≤ 1000) (hny : y.length ≤ 1000) :
    Calls Try.prog 20 #[.slice A x.length c, .slice B y.length d] w fun e w' => e = .returned (.bool (decide (x = y))) ∧ Below w.heap.size w w' := by
  have HX := Lib.hid hx
  have HY := Lib.hid hy
  have hst := Lib.hid (fun k => same_step (x := x) (y := y) (k := k))
  generalize hres : decide (x = y) = res
  have HR := Lib.hid hres
  clear hx hy hres
  generalize hn0 : x.length = n0 at *
  generalize hn1 : y.length = n1 at *
  have HN0 := Lib.hid hn0
  have HN1 := Lib.hid hn1
  clear hn0 hn1
  go_enter Try.func20, Try.ntmps20
  go_wp2_with fail
  go_loopw [5] (fun s5 wr => ∃ k : Nat, k ≤ n0 ∧ k ≤ n1 ∧ s5 = .int .i64 k ∧ Hid (decide (x.drop k = y.drop k) = res) ∧ Hid (Below w.heap.size w wr)) (fun s5 _ => n0 - (intOf s5).toNat)
  case atStart => exact ⟨0, Nat.zero_le _, Nat.zero_le _, rfl, HR, Below.refl _ _⟩
  case round =>
    obtain ⟨k, hk0, hk1, rfl, hr, BW⟩ := hrel
    by_cases h0 : k < n0
    · have t0 : decide (k < n0) = true := decide_eq_true h0
      by_cases h1 : k < n1
      · have t1 : decide (k < n1) = true := decide_eq_true h1
        have hs := Lib.hid (hst.out k h0 h1)
        obtain ⟨ab, ao, rfl, hab, hac⟩ := HX.out (by rw [HN0.out]; omega)
        obtain ⟨bb, bo, rfl, hbb, hbc⟩ := HY.out (by rw [HN1.out]; omega)
        have c0 := oldCell BW.out hab (hac k (by rw [HN0.out]; exact h0))
        have c1 := oldCell BW.out hbb (hbc k (by rw [HN1.out]; exact h1))
        clear hac hbc
        generalize pick x k = a at *
        generalize pick y k = b at *
        by_cases hq : a = b
        · have hq' : (a != b) = false := by simp [hq]
          have hn : Hid (decide (x.drop (k + 1) = y.drop (k + 1)) = res) := by unfold Hid; rw [← hr.out]; exact decide_eq_decide.2 ⟨fun h => hs.out.2 ⟨hq, h⟩, fun h => (hs.out.1 h).2⟩
          clear hq
          go_wp2_with fail
          go_quiet (fail)
          go_wp2_with fail
          go_roundw
          case rel => exact ⟨k + 1, h0, h1, by go_num, hn, belowDrewN BW.out _⟩
          case measure => simp [intOf]; omega
        · have hq' : (a != b) = true := by simpa using hq
          have hf : Hid (false = res) := by unfold Hid; rw [← hr.out]; exact (decide_eq_false fun h => hq (hs.out.1 h).1).symm
          go_wp2_with fail
          go_quiet (fail)
          go_wp2_with fail
          go_ret
          exact ⟨ret_bool hf.out, belowDrewN BW.out _⟩
      · obtain rfl : k = n1 := by omega
        have t1 : decide (k < k) = false := decide_eq_false h1
        have t2 : ((n0 : Int) == (k : Int)) = false := beq_eq_false_iff_ne.2 (by omega)
        have t2' : (n0 == k) = false := beq_eq_false_iff_ne.2 (by omega)
        have hf : Hid (false = res) := by
          unfold Hid; rw [← hr.out]
          refine (decide_eq_false fun h => ?_).symm
          have := congrArg List.length h
          simp [HN0.out, HN1.out] at this
          omega
        go_wp2_with fail
        go_ret
        exact ⟨ret_bool hf.out, BW.out⟩
    · obtain rfl : k = n0 := by omega
      have t0 : decide (k < k) = false := decide_eq_false h0
      by_cases h1 : k = n1
      · subst h1
        have hf : Hid (true = res) := by
          unfold Hid; rw [← hr.out, List.drop_eq_nil_of_le (by rw [HN0.out]; omega), List.drop_eq_nil_of_le (by rw [HN1.out]; omega)]; rfl
        go_wp2_with fail
        go_ret
        exact ⟨ret_bool hf.out, BW.out⟩
      · have t2 : ((k : Int) == (n1 : Int)) = false := beq_eq_false_iff_ne.2 (by omega)
        have t2' : (k == n1) = false := beq_eq_false_iff_ne.2 (by omega)
        have hf : Hid (false = res) := by
          unfold Hid; rw [← hr.out]
          refine (decide_eq_false fun h => ?_).symm
          have := congrArg List.length h
          simp [HN0.out, HN1.out] at this
          omega
        go_wp2_with fail
        go_ret
        exact ⟨ret_bool hf.out, BW.out⟩

set_option maxHeartbeats 4000000 in
theorem kit_SameLongs (x y : List Int) (A B : Option Addr) (c d : Nat) (w : World) (hx : Ints w w.heap.size A x) (hy : Ints w w.heap.size B y) (hnx : x.length ≤ 1000) (hny : y.length ≤ 1000) :
    Calls Try.prog 16 #[.slice A x.length c, .slice B y.length d] w fun e w' => e = .returned (.bool (decide (x = y))) ∧ Below w.heap.size w w' := by
  have HX := Lib.hid hx
  have HY := Lib.hid hy
  have hst := Lib.hid (fun k => same_step (x := x) (y := y) (k := k))
  generalize hres : decide (x = y) = res
  have HR := Lib.hid hres
  clear hx hy hres
  generalize hn0 : x.length = n0 at *
  generalize hn1 : y.length = n1 at *
  have HN0 := Lib.hid hn0
  have HN1 := Lib.hid hn1
  clear hn0 hn1
  go_enter Try.func16, Try.ntmps16
  go_wp2_with fail
  go_loopw [5] (fun s5 wr => ∃ k : Nat, k ≤ n0 ∧ k ≤ n1 ∧ s5 = .int .i64 k ∧ Hid (decide (x.drop k = y.drop k) = res) ∧ Hid (Below w.heap.size w wr)) (fun s5 _ => n0 - (intOf s5).toNat)
  case atStart => exact ⟨0, Nat.zero_le _, Nat.zero_le _, rfl, HR, Below.refl _ _⟩
  case round =>
    obtain ⟨k, hk0, hk1, rfl, hr, BW⟩ := hrel
    by_cases h0 : k < n0
    · have t0 : decide (k < n0) = true := decide_eq_true h0
      by_cases h1 : k < n1
      · have t1 : decide (k < n1) = true := decide_eq_true h1
        have hs := Lib.hid (hst.out k h0 h1)
        obtain ⟨ab, ao, rfl, hab, hac⟩ := HX.out (by rw [HN0.out]; omega)
        obtain ⟨bb, bo, rfl, hbb, hbc⟩ := HY.out (by rw [HN1.out]; omega)
        have c0 := oldCell BW.out hab (hac k (by rw [HN0.out]; exact h0))
        have c1 := oldCell BW.out hbb (hbc k (by rw [HN1.out]; exact h1))
        clear hac hbc
        generalize pick x k = a at *
        generalize pick y k = b at *
        by_cases hq : a = b
        · have hq' : (a != b) = false := by simp [hq]
          have hn : Hid (decide (x.drop (k + 1) = y.drop (k + 1)) = res) := by unfold Hid; rw [← hr.out]; exact decide_eq_decide.2 ⟨fun h => hs.out.2 ⟨hq, h⟩, fun h => (hs.out.1 h).2⟩
          clear hq
          go_wp2_with fail
          go_quiet (fail)
          go_wp2_with fail
          go_roundw
          case rel => exact ⟨k + 1, h0, h1, by go_num, hn, belowDrewN BW.out _⟩
          case measure => simp [intOf]; omega
        · have hq' : (a != b) = true := by simpa using hq
          have hf : Hid (false = res) := by unfold Hid; rw [← hr.out]; exact (decide_eq_false fun h => hq (hs.out.1 h).1).symm
          go_wp2_with fail
          go_quiet (fail)
          go_wp2_with fail
          go_ret
          exact ⟨ret_bool hf.out, belowDrewN BW.out _⟩
      · obtain rfl : k = n1 := by omega
        have t1 : decide (k < k) = false := decide_eq_false h1
        have t2 : ((n0 : Int) == (k : Int)) = false := beq_eq_false_iff_ne.2 (by omega)
        have t2' : (n0 == k) = false := beq_eq_false_iff_ne.2 (by omega)
        have hf : Hid (false = res) := by
          unfold Hid; rw [← hr.out]
          refine (decide_eq_false fun h => ?_).symm
          have := congrArg List.length h
          simp [HN0.out, HN1.out] at this
          omega
        go_wp2_with fail
        go_ret
        exact ⟨ret_bool hf.out, BW.out⟩
    · obtain rfl : k = n0 := by omega
      have t0 : decide (k < k) = false := decide_eq_false h0
      by_cases h1 : k = n1
      · subst h1
        have hf : Hid (true = res) := by
          unfold Hid; rw [← hr.out, List.drop_eq_nil_of_le (by rw [HN0.out]; omega), List.drop_eq_nil_of_le (by rw [HN1.out]; omega)]; rfl
        go_wp2_with fail
        go_ret
        exact ⟨ret_bool hf.out, BW.out⟩
      · have t2 : ((k : Int) == (n1 : Int)) = false := beq_eq_false_iff_ne.2 (by omega)
        have t2' : (k == n1) = false := beq_eq_false_iff_ne.2 (by omega)
        have hf : Hid (false = res) := by
          unfold Hid; rw [← hr.out]
          refine (decide_eq_false fun h => ?_).symm
          have := congrArg List.length h
          simp [HN0.out, HN1.out] at this
          omega
        go_wp2_with fail
        go_ret
        exact ⟨ret_bool hf.out, BW.out⟩

end Go.Proofs.Ytbbgbidpglhkfaa
