/- Walks of the package earth, second part: right lines, and the value of a line at a place. -/
import Derived.Test.YtannipfohicpmaaEarth
import Derived.Test.YtannipfohicpmaaContains
import Derived.Test.YtannipfohicpmaaLines
import Derived.RegionTactic
import Derived.BigRegion
import Derived.BigQuiet
import Derived.Deep.QuietTactic
namespace Go.Proofs.Ytannipfohicpmaa
open Go.RowKit Go.Shelf Mpl

theorem LineV.alloc {w : World} {v : Value} {ks : List Knot} (h : LineV w w.heap.size v ks) (o : Obj) : LineV (w.alloc o) (w.alloc o).heap.size v ks :=
  h.up ((Below.refl _ _).alloc (Nat.le_refl _) _) (by simp)
theorem LineV.below {w w' : World} {v : Value} {ks : List Knot} (h : LineV w w.heap.size v ks) (hb : Below w.heap.size w w') : LineV w' w'.heap.size v ks :=
  h.up hb hb.size

set_option maxHeartbeats 400000 in
theorem earth_right1 (v0 : Value) (ks : List Knot) (w : World) (hv : LineV w w.heap.size v0 ks) :
    Calls Try.prog 94 #[v0] w fun e w' => e = .returned (.bool (!right ks)) ∧ Below w.heap.size w w' := by
  have hv2 := hv
  obtain ⟨A, c, rfl, _⟩ := hv
  have HV := Lib.hid hv2
  clear hv2
  generalize ks.length = n at *
  by_cases h1 : checkLine ks 1048576 68719476736 = 0
  · have hs : Hid (right ks = true) := by simp [right, h1, Hid]
    go_enter Try.func94, Try.ntmps94
    go_wp2_with (go_at_call 95; refine (earth_CheckLine _ ks _ _ _ (HV.out.alloc _)).mono ?_; rintro e w' ⟨rfl, hb⟩)
    go_ret
    exact ⟨by rw [hs.out]; rfl, ((Below.refl _ w).alloc (Nat.le_refl _) _).trans (hb.mono (by simp))⟩
  · have hs : Hid (right ks = decide (checkLine ks 1099511627776 1048576 = 0)) := by simp [right, h1, Hid]
    have h1' : (checkLine ks 1048576 68719476736 != 0) = true := by simp [h1]
    clear h1
    go_enter Try.func94, Try.ntmps94
    go_wp2_with fail
    refine (earth_CheckLine _ ks _ _ _ (HV.out.alloc _)).mono ?_
    rintro e w1 ⟨rfl, hb⟩
    have q0 : w1.cell? ⟨w.heap.size, 0, none⟩ = some (.slice A n c) := by rw [hb.cell (p := ⟨w.heap.size, 0, none⟩) (by simp)]; simp [World.cell?_alloc_new]
    go_wp2_with fail
    refine (earth_CheckLine _ ks _ _ _ ((HV.out.alloc _).below hb)).mono ?_
    rintro e w2 ⟨rfl, hb2⟩
    go_wp2_with fail
    go_ret
    refine ⟨?_, ((Below.refl _ w).alloc (Nat.le_refl _) _).trans ((hb.mono (by simp)).trans (hb2.mono (by have := hb.size; simp at this; omega)))⟩
    rw [hs.out]
    rfl

theorem enters_right1 : ∀ args w, (callFunc 94 args).run Try.prog w = .ok (.enter 94 args) w := enters_of Try.func94 (by kernel_rfl) rfl

/-- one line, in a slice of its own -/
theorem earth_right (b n c c1 : Nat) (A : Option Addr) (ks : List Knot) (w : World) (hn : n = ks.length) (hv : Knots w w.heap.size A ks) (hb : b < w.heap.size) (hc : w.cell? ⟨b, 0, none⟩ = some (.slice A n c)) :
    Calls Try.prog 65 #[.slice (some ⟨b, 0, none⟩) 1 c1] w fun e w' => e = .returned (.bool (right ks)) ∧ Below w.heap.size w w' := by
  have HV : LineV w w.heap.size (.agg #[.slice A n c]) ks := ⟨A, c, by rw [hn], hv⟩
  have h := contains_line 94 #[] enters_right1 (fun _ => !right ks) (fun _ => .slice A n c) (some ⟨b, 0, none⟩) 1 c1 w (by omega)
    (fun _ => ⟨b, 0, rfl, hb, fun i hi => by (obtain rfl : i = 0 := by omega); exact hc⟩)
    (fun i _ W hW => earth_right1 _ ks W (HV.below hW))
  have H := Lib.hid h
  clear h hc hv HV hn
  go_enter Try.func65, Try.ntmps65
  go_wp2_with (go_at_call 93; refine H.out.mono ?_; rintro e w' ⟨rfl, hb'⟩)
  go_ret
  refine ⟨ret_bool ?_, hb'⟩
  simp [idxFrom]
  cases right ks <;> simp

theorem cmp_isNaN (a : Int) (w : World) : Calls Try.prog 115 #[.int .i64 a] w fun e w' => e = .returned (.bool false) ∧ w = w' := by
  go_enter Try.func115, Try.ntmps115
  go_wp2
  go_ret
  simp

theorem cmp_Compare (a b : Int) (w : World) : Calls Try.prog 111 #[.int .i64 a, .int .i64 b] w fun e w' => e = .returned (.int .i64 (cmpI a b)) ∧ w = w' := by
  by_cases h1 : a < b
  · go_enter Try.func111, Try.ntmps111
    go_wp2_with (go_at_call 115; refine (cmp_isNaN _ _).mono ?_; rintro e w' ⟨rfl, rfl⟩)
    go_ret
    exact ⟨ret_int (by unfold cmpI; rw [if_pos h1]), rfl⟩
  · by_cases h2 : b < a
    · go_enter Try.func111, Try.ntmps111
      go_wp2_with (go_at_call 115; refine (cmp_isNaN _ _).mono ?_; rintro e w' ⟨rfl, rfl⟩)
      go_ret
      exact ⟨ret_int (by unfold cmpI; rw [if_neg (by omega), if_pos h2]), rfl⟩
    · go_enter Try.func111, Try.ntmps111
      go_wp2_with (go_at_call 115; refine (cmp_isNaN _ _).mono ?_; rintro e w' ⟨rfl, rfl⟩)
      go_ret
      exact ⟨ret_int (by unfold cmpI; rw [if_neg (by omega), if_neg (by omega)]), rfl⟩

theorem earth_find1 (a v x : Int) (w : World) :
    Calls Try.prog 110 #[.agg #[.int .i64 a, .int .i64 v], .int .i64 x] w fun e w' => e = .returned (.int .i64 (cmpI a x)) ∧ Below w.heap.size w w' := by
  go_enter Try.func110, Try.ntmps110
  go_wp2_with (go_at_call 111; refine (cmp_Compare _ _ _).mono ?_; rintro e w' ⟨rfl, rfl⟩)
  go_ret
  exact ⟨rfl, (Below.refl _ w).alloc (Nat.le_refl _) _⟩

theorem floor_eq (a b : Int) (hb : 0 < b) : a / b = if a.tmod b < 0 then a.tdiv b - 1 else a.tdiv b := by
  have h3 := Int.emod_nonneg a (show b ≠ 0 by omega)
  have h4 := Int.emod_lt_of_pos a hb
  have h5 := Int.sign_eq_one_of_pos hb
  rw [Int.tdiv_eq_ediv, Int.tmod_eq_emod]
  by_cases h : 0 ≤ a ∨ b ∣ a
  · rw [if_pos h, if_pos h, if_neg (by omega)]
    omega
  · rw [if_neg h, if_neg h, if_pos (by omega), h5]
    omega

theorem earth_floor (a b : Int) (w : World) (hb : 0 < b) (ha1 : -4611686018427387904 ≤ a) (ha2 : a ≤ 4611686018427387904) (hb2 : b ≤ 4611686018427387904) :
    Calls Try.prog 112 #[.int .i64 a, .int .i64 b] w fun e w' => e = .returned (.int .i64 (a / b)) ∧ w = w' := by
  have hz : (b == 0) = false := beq_eq_false_iff_ne.2 (by omega)
  have hf := Lib.hid (floor_eq a b hb)
  have hd1 : -4611686018427387904 ≤ a / b := Int.le_ediv_of_mul_le hb (by have := Int.mul_le_mul_of_nonneg_left (show (1 : Int) ≤ b by omega) (show (0 : Int) ≤ 4611686018427387904 by omega); omega)
  by_cases hm : a.tmod b < 0
  · have hm' : decide (a.tmod b < 0) = true := decide_eq_true hm
    go_enter Try.func112, Try.ntmps112
    go_wp2
    go_ret
    have := hf.out
    rw [if_pos hm] at this
    refine ⟨ret_int ?_, rfl⟩
    rw [this]
    refine IntWalk.wrap64_in _ ⟨by omega, ?_⟩
    have := Int.ediv_le_self b (show (0 : Int) ≤ 4611686018427387904 by omega)
    have h2 : a / b ≤ 4611686018427387904 / b := Int.ediv_le_ediv hb ha2
    have h3 : (4611686018427387904 : Int) / b ≤ 4611686018427387904 := Int.ediv_le_self _ (by omega)
    omega
  · go_enter Try.func112, Try.ntmps112
    go_wp2
    go_ret
    have := hf.out
    rw [if_neg (by omega)] at this
    exact ⟨ret_int this.symm, rfl⟩


set_option maxHeartbeats 1000000 in
set_option maxRecDepth 100000 in
theorem search_knots (ks : List Knot) (A : Option Addr) (c : Nat) (x : Int) (w : World) (hk : Knots w w.heap.size A ks) (h24 : ks.length ≤ 24) (hs : ∀ i, i < ks.length → ((kn ks i).At < x ↔ i < before x ks)) :
    Calls Try.prog 109 #[.slice A ks.length c, .int .i64 x, .func (.func 110) #[] #[]] w fun e w' =>
      e = .returned (.tuple #[.int .i64 (before x ks), .bool (decide (before x ks < ks.length ∧ (kn ks (before x ks)).At = x))]) ∧ Below w.heap.size w w' := by
  have HK := Lib.hid hk
  have HS := Lib.hid hs
  clear hk hs
  have hbl := before_le x ks
  generalize hm : before x ks = m at *
  have HM := Lib.hid hm
  clear hm
  generalize hn : ks.length = n at *
  have HN := Lib.hid hn
  clear hn
  go_enter Try.func109, Try.ntmps109
  go_wp2
  go_loopw [9, 10] (fun i j wr => ∃ (a b : Nat), a ≤ m ∧ m ≤ b ∧ b ≤ n ∧ i = .int .i64 a ∧ j = .int .i64 b ∧ Hid (Below w.heap.size w wr)) (fun i j _ => (intOf j).toNat - (intOf i).toNat)
  case atStart => exact ⟨0, n, Nat.zero_le _, hbl, Nat.le_refl _, rfl, rfl, Below.refl _ w⟩
  case round =>
    obtain ⟨a, b, h1, h2, h3, rfl, rfl, BW⟩ := hrel
    by_cases hlt : a < b
    · obtain ⟨blk, off, rfl, hb, hc⟩ := HK.out.out (by rw [HN.out]; omega)
      obtain ⟨c0, c1⟩ := hc ((a + b) / 2) (by rw [HN.out]; omega)
      have d0 : wr.cell? ⟨blk, off + (a + b) / 2 * 2, none⟩ = _ := (BW.out.cell (p := ⟨blk, off + (a + b) / 2 * 2, none⟩) hb).trans c0
      have d1 : wr.cell? ⟨blk, off + (a + b) / 2 * 2 + 1, none⟩ = _ := (BW.out.cell (p := ⟨blk, off + (a + b) / 2 * 2 + 1, none⟩) hb).trans c1
      clear c0 c1 hc
      have hq := Lib.hid (HS.out ((a + b) / 2) (by omega))
      have hcm : Hid (cmpI (kn ks ((a + b) / 2)).At x < 0 ↔ (kn ks ((a + b) / 2)).At < x) := by unfold Hid cmpI; split <;> (try split) <;> omega
      by_cases ht : cmpI (kn ks ((a + b) / 2)).At x < 0
      · go_wp2_with (go_at_call 110; refine (earth_find1 _ _ _ _).mono ?_; rintro e w1 ⟨rfl, hb1⟩)
        have hlt2 := hq.out.1 (hcm.out.1 ht)
        go_roundw
        case rel => exact ⟨(a + b) / 2 + 1, b, by omega, h2, h3, by go_num, rfl, BW.out.trans (hb1.mono BW.out.size)⟩
        case measure => simp [intOf]; omega
      · go_wp2_with (go_at_call 110; refine (earth_find1 _ _ _ _).mono ?_; rintro e w1 ⟨rfl, hb1⟩)
        have hge : ¬ (a + b) / 2 < m := fun h => by have := hcm.out.2 (hq.out.2 h); omega
        go_roundw
        case rel => exact ⟨a, (a + b) / 2, h1, by omega, by omega, rfl, by go_num, BW.out.trans (hb1.mono BW.out.size)⟩
        case measure => simp [intOf]; omega
    · obtain rfl : a = m := by omega
      by_cases hmn : a < n
      · obtain ⟨blk, off, rfl, hb, hc⟩ := HK.out.out (by rw [HN.out]; omega)
        obtain ⟨c0, c1⟩ := hc a (by rw [HN.out]; omega)
        have d0 : wr.cell? ⟨blk, off + a * 2, none⟩ = _ := (BW.out.cell (p := ⟨blk, off + a * 2, none⟩) hb).trans c0
        have d1 : wr.cell? ⟨blk, off + a * 2 + 1, none⟩ = _ := (BW.out.cell (p := ⟨blk, off + a * 2 + 1, none⟩) hb).trans c1
        clear c0 c1 hc
        have hmn' : decide ((a : Int) < (n : Int)) = true := decide_eq_true (by omega)
        have hcm : Hid ((cmpI (kn ks a).At x == 0) = decide ((kn ks a).At = x)) := by
          unfold Hid cmpI
          rw [Bool.eq_iff_iff, beq_iff_eq, decide_eq_true_iff]
          split <;> (try split) <;> omega
        go_wp2_with (go_at_call 110; refine (earth_find1 _ _ _ _).mono ?_; rintro e w1 ⟨rfl, hb1⟩)
        go_ret2
        refine ⟨?_, BW.out.trans (hb1.mono BW.out.size)⟩
        show Ending.returned (.tuple #[.int .i64 a, .bool (cmpI (kn ks a).At x == 0)]) = _
        rw [hcm.out]
        simp [hmn]
      · go_wp2_with fail
        go_ret2
        refine ⟨?_, BW.out⟩
        simp [hmn]

end Go.Proofs.Ytannipfohicpmaa
