/- Walks of the reference of layer 3: holes. -/
import Derived.Test.YtgcfplkfclapiaaFAnnulus
import Derived.Test.YtgcfplkfclapiaaFHeight2
import Derived.Deep.QuietTactic
import Derived.BigQuiet
namespace Mpl
/-- the sum of lengths, each capped -/
def capUp (l : List Seg) (k : Nat) : Int := sumFrom (fun i => min (longAt l i) 1048577) 0 k
theorem capUp_step (l : List Seg) (k : Nat) : capUp l (k + 1) = capUp l k + min (sg l k).Long 1048577 := up_step _ k
theorem capUp_spec (l : List Seg) (k : Nat) (h : ∀ i, i < k → GoodSeg (sg l i)) : 0 ≤ capUp l k ∧ capUp l k ≤ k * 1048577 ∧ (capUp l k = longUp l k ∨ 1048577 ≤ capUp l k) ∧ capUp l k ≤ longUp l k := by
  induction k with
  | zero => simp [capUp, longUp, sumFrom]
  | succ k ih =>
    have i := ih fun i hi => h i (by omega)
    have g := (h k (by omega)).long
    rw [capUp_step, longUp_step]
    omega
end Mpl
namespace Go.Proofs.Ytgcfplkfclapiaa
open Go.RowKit Go.Shelf Mpl

theorem hole_box {w : World} {g t : Nat} {v : Value} (h : Box w g t #[v]) : w.cell? ⟨g, 0, none⟩ = some v := h.cell 0

set_option maxHeartbeats 4000000 in
set_option maxRecDepth 100000 in
theorem refHole_loop (l : List Seg) (b off c : Nat) (w : World) (hb : b < w.heap.size) (hc : ∀ i, i < l.length → w.cell? ⟨b, off + i * 4, none⟩ = some (.int .i64 (sg l i).Long) ∧ w.cell? ⟨b, off + i * 4 + 1, none⟩ = some (.int .i64 (sg l i).Rise) ∧
      w.cell? ⟨b, off + i * 4 + 2, none⟩ = some (.int .i64 (sg l i).Area) ∧ w.cell? ⟨b, off + i * 4 + 3, none⟩ = some (.int .i64 (sg l i).Gap)) (h0 : 0 < l.length) (h16 : l.length ≤ 16) :
    Calls Try.prog 28 #[.agg #[.slice (some ⟨b, off, none⟩) l.length c]] w fun e w' => e = .returned (.int .i64 (checkHole l)) ∧ Below w.heap.size w w' := by
  have HC := Lib.hid hc
  have hany : (∃ i, i < l.length ∧ ¬ GoodSeg (sg l i)) → checkHole l = 2 := fun ⟨i, hi, hf⟩ => by
    unfold checkHole
    rw [if_neg (by omega), if_neg (by omega), if_pos]
    rw [List.any_eq_true]
    refine ⟨l[i], List.getElem_mem hi, ?_⟩
    have : sg l i = l[i] := by simp [sg, hi]
    rw [this, ← fairSeg_iff] at hf
    simpa using hf
  have hall : (∀ i, i < l.length → GoodSeg (sg l i)) → checkHole l = if 1048576 < capUp l l.length then 5 else 0 := fun hg => by
    have hs := capUp_spec l l.length hg
    unfold checkHole
    rw [if_neg (by omega), if_neg (by omega), if_neg (by rw [(any_seg l).2 hg]; simp)]
    by_cases h : 1048576 < longUp l l.length
    · rw [if_pos h, if_pos (by omega)]
    · rw [if_neg h, if_neg (by omega)]
  have HANY := Lib.hid hany
  have HALL := Lib.hid hall
  clear hc hany hall
  generalize hn : l.length = n at *
  have HN := Lib.hid hn
  clear hn
  generalize hres : checkHole l = res at *
  clear hres
  have hz : ((n : Int) == 0) = false := beq_eq_false_iff_ne.2 (by omega)
  have hz2 : decide ((16 : Int) < (n : Int)) = false := decide_eq_false (by omega)
  have hz2' : decide (16 < n) = false := decide_eq_false (by omega)
  have hB0 : Below w.heap.size w (w.alloc (.cells #[.slice (some ⟨b, off, none⟩) n c] 25)) := (by repeat (first | exact Below.refl _ _ | assumption | refine Below.setCell ?_ (by first | (simp; done) | (simp; omega)) _ | refine belowDrewN ?_ _ | refine Below.drew ?_ | refine Below.alloc ?_ (by first | (simp; done) | (simp; omega)) _))
  have b0 : Box (w.alloc (.cells #[.slice (some ⟨b, off, none⟩) n c] 25)) w.heap.size 25 #[.slice (some ⟨b, off, none⟩) n c] := Box.new _ _ _ rfl
  have HB0 := Lib.hid hB0
  have BX0 := Lib.hid b0
  clear hB0 b0
  go_enter Try.func28, Try.ntmps28
  go_wp2_with fail
  go_loopw [3, 4] (fun s3 s4 wr => ∃ (k : Nat), k ≤ n ∧ s4 = .int .i64 k ∧ s3 = .int .i64 (capUp l k) ∧ Hid (∀ i, i < k → GoodSeg (sg l i)) ∧ Hid (Box wr w.heap.size 25 #[.slice (some ⟨b, off, none⟩) n c]) ∧ Hid (Below w.heap.size w wr)) (fun _ s4 _ => n - (intOf s4).toNat)
  case atStart => exact ⟨0, Nat.zero_le _, rfl, rfl, fun i hi => absurd hi (by omega), BX0, HB0⟩
  case round =>
    obtain ⟨k, hk, rfl, rfl, hf, BX, BW⟩ := hrel
    have hsz := BW.out.size
    have q0 := hole_box BX.out
    by_cases hlt : k < n
    · obtain ⟨c0, c1, c2, c3⟩ := HC.out k hlt
      have t0 : decide (k < n) = true := decide_eq_true hlt
      have d0 := oldCell BW.out hb c0
      have d1 := oldCell BW.out hb c1
      have d2 := oldCell BW.out hb c2
      have d3 := oldCell BW.out hb c3
      have hbw : b < wr.heap.size := by omega
      clear c0 c1 c2 c3
      have hst := Lib.hid (capUp_step l k)
      have hcs := capUp_spec l k hf.out
      obtain ⟨s0, s1, _, _⟩ := hcs
      have hone := Lib.hid (show ¬ GoodSeg (sg l k) → res = 2 from fun h => HANY.out ⟨k, hlt, h⟩)
      have hx : Hid (GoodSeg (sg l k) → (∀ i, i < k + 1 → GoodSeg (sg l i))) := fun h i hi => by
        by_cases e : i = k
        · rw [e]; exact h
        · exact hf.out i (by omega)
      generalize hSk : capUp l k = S at *
      generalize hS1 : capUp l (k + 1) = S1 at *
      have HS1 := Lib.hid hS1
      clear hSk hS1
      generalize sg l k = s at *
      have BA := Lib.hid (BW.out.alloc hsz (.cells #[.int .i64 s.Long, .int .i64 s.Rise, .int .i64 s.Area, .int .i64 s.Gap] 29))
      by_cases g1 : s.Long < 1
      · have e1 : decide (s.Long < 1) = true := decide_eq_true g1
        have hr := Lib.hid (hone.out fun h => by have := h.long; omega)
        go_wp2_with fail
        go_ret
        exact ⟨ret_int hr.out.symm, BA.out⟩
      have e1 : decide (s.Long < 1) = false := decide_eq_false g1
      by_cases g2 : s.Rise < 0
      · have e2 : decide (s.Rise < 0) = true := decide_eq_true g2
        have hr := Lib.hid (hone.out fun h => by have := h.rise0; omega)
        go_wp2_with fail
        go_ret
        exact ⟨ret_int hr.out.symm, BA.out⟩
      have e2 : decide (s.Rise < 0) = false := decide_eq_false g2
      by_cases g3 : s.Long < s.Rise
      · have e3 : decide (s.Long < s.Rise) = true := decide_eq_true g3
        have hr := Lib.hid (hone.out fun h => by have := h.rise1; omega)
        go_wp2_with fail
        go_ret
        exact ⟨ret_int hr.out.symm, BA.out⟩
      have e3 : decide (s.Long < s.Rise) = false := decide_eq_false g3
      by_cases g4 : s.Area < 1
      · have e4 : decide (s.Area < 1) = true := decide_eq_true g4
        have hr := Lib.hid (hone.out fun h => by have := h.area0; omega)
        go_wp2_with fail
        go_ret
        exact ⟨ret_int hr.out.symm, BA.out⟩
      have e4 : decide (s.Area < 1) = false := decide_eq_false g4
      by_cases g5 : 5000 < s.Area
      · have e5 : decide (5000 < s.Area) = true := decide_eq_true g5
        have hr := Lib.hid (hone.out fun h => by have := h.area1; omega)
        go_wp2_with fail
        go_ret
        exact ⟨ret_int hr.out.symm, BA.out⟩
      have e5 : decide (5000 < s.Area) = false := decide_eq_false g5
      by_cases g6 : s.Gap < 1
      · have e6 : decide (s.Gap < 1) = true := decide_eq_true g6
        have hr := Lib.hid (hone.out fun h => by have := h.gap0; omega)
        go_wp2_with fail
        go_ret
        exact ⟨ret_int hr.out.symm, BA.out⟩
      have e6 : decide (s.Gap < 1) = false := decide_eq_false g6
      by_cases g7 : 200 < s.Gap
      · have e7 : decide (200 < s.Gap) = true := decide_eq_true g7
        have hr := Lib.hid (hone.out fun h => by have := h.gap1; omega)
        go_wp2_with fail
        go_ret
        exact ⟨ret_int hr.out.symm, BA.out⟩
      have e7 : decide (200 < s.Gap) = false := decide_eq_false g7
      have HX := Lib.hid (hx.out ⟨by omega, by omega, by omega, by omega, by omega, by omega, by omega⟩)
      obtain ⟨m, hm⟩ : ∃ m, (if (1048577 : Int) < s.Long then (1048577 : Int) else s.Long) = m := ⟨_, rfl⟩
      have hm1 : m = min s.Long 1048577 := by rw [← hm]; split <;> omega
      have HST := Lib.hid (show S1 = S + m by rw [hst.out, hm1])
      have hm0 : 0 ≤ m ∧ m ≤ 1048577 := by omega
      obtain ⟨m0, m1⟩ := hm0
      have BX1 := Lib.hid (BX.out.alloc (.cells #[.int .i64 s.Long, .int .i64 s.Rise, .int .i64 s.Area, .int .i64 s.Gap] 29))
      clear hone hx hst hm1
      go_wp2_with fail
      go_roundw
      case rel => exact ⟨k + 1, hlt, by go_num, by rw [HS1.out, HST.out], HX, BX1, BA⟩
      case measure => simp [intOf]; omega
    · obtain rfl : k = n := by omega
      have hr := Lib.hid (HALL.out hf.out)
      have t0 : decide (k < k) = false := decide_eq_false hlt
      by_cases hl : 1048576 < capUp l k
      · rw [if_pos hl] at hr
        have e1 : decide (1048576 < capUp l k) = true := decide_eq_true hl
        go_wp2_with fail
        go_ret
        exact ⟨ret_int hr.out.symm, BW.out⟩
      · rw [if_neg hl] at hr
        have e1 : decide (1048576 < capUp l k) = false := decide_eq_false hl
        go_wp2_with fail
        go_ret
        exact ⟨ret_int hr.out.symm, BW.out⟩

set_option maxHeartbeats 1000000 in
theorem ref03_CheckHole (v0 : Value) (l : List Seg) (w : World) (hv : HoleV w w.heap.size v0 l) :
    Calls Try.prog 28 #[v0] w fun e w' => e = .returned (.int .i64 (checkHole l)) ∧ Below w.heap.size w w' := by
  obtain ⟨A, c, rfl, hk⟩ := hv
  by_cases h0 : l.length = 0
  · have hs : Hid (checkHole l = 6) := by simp [checkHole, h0, Hid]
    rw [h0]
    have hz : (((0 : Nat) : Int) == 0) = true := by simp
    clear h0 hk
    go_enter Try.func28, Try.ntmps28
    go_wp2_with fail
    go_ret
    exact ⟨ret_int hs.out.symm, (by repeat (first | exact Below.refl _ _ | assumption | refine Below.setCell ?_ (by first | (simp; done) | (simp; omega)) _ | refine belowDrewN ?_ _ | refine Below.drew ?_ | refine Below.alloc ?_ (by first | (simp; done) | (simp; omega)) _))⟩
  · by_cases h16 : 16 < l.length
    · have hs : Hid (checkHole l = 8) := by simp [checkHole, h0, h16, Hid]
      clear hk
      generalize l.length = n at *
      have hz : ((n : Int) == 0) = false := beq_eq_false_iff_ne.2 (by omega)
      have hz2 : decide ((16 : Int) < (n : Int)) = true := decide_eq_true (by omega)
      go_enter Try.func28, Try.ntmps28
      go_wp2_with fail
      go_ret
      exact ⟨ret_int hs.out.symm, (by repeat (first | exact Below.refl _ _ | assumption | refine Below.setCell ?_ (by first | (simp; done) | (simp; omega)) _ | refine belowDrewN ?_ _ | refine Below.drew ?_ | refine Below.alloc ?_ (by first | (simp; done) | (simp; omega)) _))⟩
    · obtain ⟨b, off, rfl, hb, hc⟩ := hk (by omega)
      exact refHole_loop l b off c w hb hc (by omega) (by omega)

set_option maxHeartbeats 4000000 in
set_option maxRecDepth 100000 in
theorem ref03_Volume (v0 : Value) (l : List Seg) (w : World) (hv : HoleV w w.heap.size v0 l) :
    Calls Try.prog 29 #[v0] w fun e w' => e = .returned (.int .i64 (volumeOf l)) ∧ Below w.heap.size w w' := by
  have hvv := hv
  obtain ⟨A, c, rfl, hS⟩ := hv
  have HA := hvv.alloc (.cells #[.slice A l.length c] 25)
  have HC := Lib.hid (ref03_CheckHole _ l _ HA)
  have hba : Below w.heap.size w (w.alloc (.cells #[.slice A l.length c] 25)) := (Below.refl _ _).alloc (Nat.le_refl _) _
  have b0 : Box (w.alloc (.cells #[.slice A l.length c] 25)) w.heap.size 25 #[.slice A l.length c] := Box.new _ _ _ rfl
  have HB := Lib.hid b0
  have HBA := Lib.hid hba
  have hd : Hid (volumeOf l = if checkHole l = 0 then sizeUp l l.length else 0) := rfl
  have hi := Lib.hid (checkHole_iff l)
  clear hvv HA hba b0
  by_cases h0 : checkHole l = 0
  · have hg := hi.out.1 h0
    have HG := Lib.hid hg
    obtain ⟨b, off, rfl, hb, hc⟩ := hS hg.pos
    have HCC := Lib.hid hc
    have hfew := hg.few
    rw [h0] at HC
    rw [if_pos h0] at hd
    clear h0 hS hc hg hi
    generalize hn : l.length = n at *
    have HN := Lib.hid hn
    clear hn
    generalize volumeOf l = res at *
    go_enter Try.func29, Try.ntmps29
    go_wp2_with fail
    refine HC.out.mono ?_
    rintro e w1 ⟨rfl, hb1⟩
    have BX1 := Lib.hid (HB.out.under hb1)
    have HB1 := Lib.hid (HBA.out.trans (hb1.mono HBA.out.size))
    clear hb1
    go_wp2_with fail
    go_loopw [3, 4] (fun s3 s4 wr => ∃ (k : Nat), k ≤ n ∧ s4 = .int .i64 k ∧ s3 = .int .i64 (sizeUp l k) ∧ Hid (Box wr w.heap.size 25 #[.slice (some ⟨b, off, none⟩) n c]) ∧ Hid (Below w.heap.size w wr)) (fun _ s4 _ => n - (intOf s4).toNat)
    case atStart => exact ⟨0, Nat.zero_le _, rfl, rfl, BX1, HB1⟩
    case round =>
      obtain ⟨k, hk, rfl, rfl, BX, BW⟩ := hrel
      have hsz := BW.out.size
      have q0 := hole_box BX.out
      by_cases hlt : k < n
      · obtain ⟨c0, c1, c2, c3⟩ := HCC.out k hlt
        have t0 : decide (k < n) = true := decide_eq_true hlt
        have d0 := oldCell BW.out hb c0
        have d2 := oldCell BW.out hb c2
        have hbw : b < wr.heap.size := by omega
        have hst := Lib.hid (sizeUp_step l k)
        have hu := HG.out.ups k (by rw [HN.out]; omega)
        obtain ⟨_, _, _, _, u5, u6⟩ := hu
        have hs2 := HG.out.seg (k := k) (by rw [HN.out]; exact hlt)
        obtain ⟨_, z1, z2⟩ := hs2
        have hse : Hid (segSize (sg l k) = (sg l k).Long * (sg l k).Area) := rfl
        clear c0 c1 c2 c3
        generalize hSk : sizeUp l k = S at *
        generalize hS1 : sizeUp l (k + 1) = S1 at *
        have HS1 := Lib.hid hS1
        clear hSk hS1
        generalize segSize (sg l k) = z at *
        generalize sg l k = s at *
        have hw1 : IntKind.i64.wrap (s.Long * s.Area) = z := by rw [← hse.out]; exact IntWalk.i64_in _ (by omega)
        have hw2 : IntKind.i64.wrap (S + z) = S + z := IntWalk.i64_in _ (by omega)
        have b1 : (k : Int) < (n : Int) := by omega
        have b2 : (0 : Int) ≤ (k : Int) := by omega
        go_wp2_with fail
        go_quiet (fail)
        go_wp2_with fail
        go_roundw
        case rel => exact ⟨k + 1, hlt, by go_num, by rw [HS1.out, hst.out], BX.out.drewN _, belowDrewN BW.out _⟩
        case measure => simp [intOf]; omega
      · obtain rfl : k = n := by omega
        have t0 : decide (k < k) = false := decide_eq_false hlt
        go_wp2_with fail
        go_ret
        exact ⟨ret_int hd.out.symm, BW.out⟩
  · rw [if_neg h0] at hd
    have hz : (checkHole l != 0) = true := by simpa using h0
    clear h0 hS
    generalize checkHole l = ch at *
    generalize l.length = n at *
    go_enter Try.func29, Try.ntmps29
    go_wp2_with fail
    refine HC.out.mono ?_
    rintro e w1 ⟨rfl, hb1⟩
    go_wp2_with fail
    go_ret
    exact ⟨ret_int hd.out.symm, HBA.out.trans (hb1.mono HBA.out.size)⟩

end Go.Proofs.Ytgcfplkfclapiaa
