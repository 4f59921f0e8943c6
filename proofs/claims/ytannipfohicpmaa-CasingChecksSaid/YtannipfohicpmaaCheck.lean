/- Walks of the package casing: which jobs are valid. -/
import Derived.Test.YtannipfohicpmaaEarth4
import Derived.Test.YtannipfohicpmaaBase2
namespace Go.Proofs.Ytannipfohicpmaa
open Go.RowKit Go.Shelf Mpl

theorem casing_within (n lo hi : Int) (w : World) :
    Calls Try.prog 48 #[.int .i64 n, .int .i64 lo, .int .i64 hi] w fun e w' => e = .returned (.bool (within n lo hi)) ∧ w = w' := by
  unfold within
  by_cases h1 : lo ≤ n
  · by_cases h2 : n ≤ hi
    · go_enter Try.func48, Try.ntmps48
      go_wp2
      go_ret
      simp [h1, h2]
    · go_enter Try.func48, Try.ntmps48
      go_wp2
      go_ret
      simp [h2]
  · go_enter Try.func48, Try.ntmps48
    go_wp2
    go_ret
    simp
    omega

theorem casing_checkEnds1 (z : Int) (w : World) :
    Calls Try.prog 99 #[.int .i64 z] w fun e w' => e = .returned (.bool (!within z 1 1048576)) ∧ w = w' := by
  go_enter Try.func99, Try.ntmps99
  go_wp2_with (go_at_call 48; refine (casing_within _ _ _ _).mono ?_; rintro e w' ⟨rfl, rfl⟩)
  go_ret
  exact ⟨rfl, rfl⟩
theorem enters_checkEnds1 : ∀ args w, (callFunc 99 args).run Try.prog w = .ok (.enter 99 args) w := enters_of Try.func99 (by kernel_rfl) rfl

set_option maxHeartbeats 1000000 in
theorem casing_fair (g : Grade) (w : World) :
    Calls Try.prog 74 #[gradeV g] w fun e w' => e = .returned (.bool (fairGrade g)) ∧ Below w.heap.size w w' := by
  unfold gradeV
  cases h1 : within g.Burst 0 68719476736
  · have hs : Hid (fairGrade g = false) := by simp [fairGrade, h1, Hid]
    go_enter Try.func74, Try.ntmps74
    go_wp2_with (go_at_call 48; refine (casing_within _ _ _ _).mono ?_; rintro e w' ⟨rfl, rfl⟩)
    go_ret
    exact ⟨by rw [hs.out]; rfl, (by repeat (first | exact Below.refl _ _ | assumption | refine Below.setCell ?_ (by first | (simp; done) | (simp; omega)) _ | refine belowDrewN ?_ _ | refine Below.drew ?_ | refine Below.alloc ?_ (by first | (simp; done) | (simp; omega)) _))⟩
  cases h2 : within g.Collapse 0 68719476736
  · have hs : Hid (fairGrade g = false) := by simp [fairGrade, h2, Hid]
    go_enter Try.func74, Try.ntmps74
    go_wp2_with (go_at_call 48; refine (casing_within _ _ _ _).mono ?_; rintro e w' ⟨rfl, rfl⟩)
    go_ret
    exact ⟨by rw [hs.out]; rfl, (by repeat (first | exact Below.refl _ _ | assumption | refine Below.setCell ?_ (by first | (simp; done) | (simp; omega)) _ | refine belowDrewN ?_ _ | refine Below.drew ?_ | refine Below.alloc ?_ (by first | (simp; done) | (simp; omega)) _))⟩
  cases h3 : within g.Pull 1 1099511627776
  · have hs : Hid (fairGrade g = false) := by simp [fairGrade, h3, Hid]
    go_enter Try.func74, Try.ntmps74
    go_wp2_with (go_at_call 48; refine (casing_within _ _ _ _).mono ?_; rintro e w' ⟨rfl, rfl⟩)
    go_ret
    exact ⟨by rw [hs.out]; rfl, (by repeat (first | exact Below.refl _ _ | assumption | refine Below.setCell ?_ (by first | (simp; done) | (simp; omega)) _ | refine belowDrewN ?_ _ | refine Below.drew ?_ | refine Below.alloc ?_ (by first | (simp; done) | (simp; omega)) _))⟩
  cases h4 : within g.Weight 0 1048576
  · have hs : Hid (fairGrade g = false) := by simp [fairGrade, h4, Hid]
    go_enter Try.func74, Try.ntmps74
    go_wp2_with (go_at_call 48; refine (casing_within _ _ _ _).mono ?_; rintro e w' ⟨rfl, rfl⟩)
    go_ret
    exact ⟨by rw [hs.out]; rfl, (by repeat (first | exact Below.refl _ _ | assumption | refine Below.setCell ?_ (by first | (simp; done) | (simp; omega)) _ | refine belowDrewN ?_ _ | refine Below.drew ?_ | refine Below.alloc ?_ (by first | (simp; done) | (simp; omega)) _))⟩
  have hs : Hid (fairGrade g = within g.Cost 0 1048576) := by simp [fairGrade, h1, h2, h3, h4, Hid]
  go_enter Try.func74, Try.ntmps74
  go_wp2_with (go_at_call 48; refine (casing_within _ _ _ _).mono ?_; rintro e w' ⟨rfl, rfl⟩)
  go_ret
  exact ⟨by rw [hs.out]; rfl, (by repeat (first | exact Below.refl _ _ | assumption | refine Below.setCell ?_ (by first | (simp; done) | (simp; omega)) _ | refine belowDrewN ?_ _ | refine Below.drew ?_ | refine Below.alloc ?_ (by first | (simp; done) | (simp; omega)) _))⟩

theorem casing_Check1 (g : Grade) (w : World) :
    Calls Try.prog 73 #[gradeV g] w fun e w' => e = .returned (.bool (!fairGrade g)) ∧ Below w.heap.size w w' := by
  have H := Lib.hid (fun w => casing_fair g w)
  unfold gradeV at *
  go_enter Try.func73, Try.ntmps73
  go_wp2_with (go_at_call 74; refine (H.out _).mono ?_; rintro e w' ⟨rfl, hb⟩)
  go_ret
  exact ⟨rfl, ((Below.refl _ w).alloc (Nat.le_refl _) _).trans (hb.mono (by simp))⟩
theorem enters_Check1 : ∀ args w, (callFunc 73 args).run Try.prog w = .ok (.enter 73 args) w := enters_of Try.func73 (by kernel_rfl) rfl

/-- the first number from i on, of m, that is not 0 -/
def firstErr (f : Nat → Int) : Nat → Nat → Int
  | _, 0 => 0
  | i, m + 1 => if f i ≠ 0 then f i else firstErr f (i + 1) m

/-- lines, in a slice -/
structure LinesAt (w : World) (B : Nat) (b off m : Nat) (A : Nat → Option Addr) (c : Nat → Nat) (L : Nat → List Knot) : Prop where
  lt : b < B
  cell : ∀ i, i < m → w.cell? ⟨b, off + i, none⟩ = some (.slice (A i) (L i).length (c i))
  knots : ∀ i, i < m → Knots w B (A i) (L i)
theorem LinesAt.up {w w' : World} {B B' b off m : Nat} {A : Nat → Option Addr} {c : Nat → Nat} {L : Nat → List Knot} (h : LinesAt w B b off m A c L) (hb : Below B w w') (hB : B ≤ B') : LinesAt w' B' b off m A c L :=
  ⟨Nat.lt_of_lt_of_le h.lt hB, fun i hi => oldCell hb h.lt (h.cell i hi), fun i hi => (h.knots i hi).up hb hB⟩
theorem LinesAt.below {w w' : World} {b off m : Nat} {A : Nat → Option Addr} {c : Nat → Nat} {L : Nat → List Knot} (h : LinesAt w w.heap.size b off m A c L) (hb : Below w.heap.size w w') : LinesAt w' w'.heap.size b off m A c L := h.up hb hb.size
theorem LinesAt.line {w : World} {b off m : Nat} {A : Nat → Option Addr} {c : Nat → Nat} {L : Nat → List Knot} (h : LinesAt w w.heap.size b off m A c L) {i : Nat} (hi : i < m) : LineV w w.heap.size (.agg #[.slice (A i) (L i).length (c i)]) (L i) :=
  ⟨A i, c i, rfl, h.knots i hi⟩

set_option maxHeartbeats 1000000 in
theorem casing_checkLines (b off m cap : Nat) (A : Nat → Option Addr) (c : Nat → Nat) (L : Nat → List Knot) (w : World) (hl : LinesAt w w.heap.size b off m A c L) (hm : m ≤ 1000) :
    Calls Try.prog 72 #[.slice (some ⟨b, off, none⟩) m cap] w fun e w' => e = .returned (.int .i64 (firstErr (fun i => okLine (L i)) 0 m)) ∧ Below w.heap.size w w' := by
  have HL := Lib.hid hl
  clear hl
  generalize hres : firstErr (fun i => okLine (L i)) 0 m = res
  have HR := Lib.hid hres
  clear hres
  go_enter Try.func72, Try.ntmps72
  go_wp2_with fail
  go_loopw [8] (fun s8 wr => ∃ kk : Nat, kk ≤ m ∧ s8 = .int .i64 kk ∧ Hid (firstErr (fun i => okLine (L i)) kk (m - kk) = res) ∧ Hid (Below w.heap.size w wr)) (fun s8 _ => m - (intOf s8).toNat)
  case atStart => exact ⟨0, Nat.zero_le _, rfl, HR, Below.refl _ w⟩
  case round =>
    obtain ⟨kk, hkk, rfl, hr, BW⟩ := hrel
    by_cases hlt : kk < m
    · have hl2 := HL.out.below BW.out
      have d0 := hl2.cell kk hlt
      have HC := Lib.hid (earth_CheckLine _ (L kk) 1048576 68719476736 (wr.alloc (.cells #[.slice (A kk) (L kk).length (c kk)] 24)) ((hl2.line hlt).alloc _))
      clear hl2
      have hs : firstErr (fun i => okLine (L i)) kk (m - kk) = if okLine (L kk) ≠ 0 then okLine (L kk) else firstErr (fun i => okLine (L i)) (kk + 1) (m - (kk + 1)) := by
        rw [show m - kk = (m - (kk + 1)) + 1 by omega, firstErr]
      have HS := Lib.hid hs
      clear hs
      have hx : Hid (okLine (L kk) = checkLine (L kk) 1048576 68719476736) := rfl
      by_cases hz : okLine (L kk) = 0
      · have hz' : (checkLine (L kk) 1048576 68719476736 != 0) = false := by rw [← hx.out, hz]; rfl
        generalize (L kk).length = n0 at *
        go_wp2_with fail
        refine HC.out.mono ?_
        rintro e w1 ⟨rfl, hb1⟩
        generalize checkLine (L kk) 1048576 68719476736 = e1 at *
        go_wp2_with fail
        go_roundw
        case rel => exact ⟨kk + 1, hlt, by go_num, by unfold Hid; rw [← hr.out, HS.out, if_neg (by simpa using hz)], (BW.out.alloc BW.out.size _).trans (hb1.mono (by have := BW.out.size; simp; omega))⟩
        case measure => simp [intOf]; omega
      · have hz' : (checkLine (L kk) 1048576 68719476736 != 0) = true := by rw [← hx.out]; simpa using hz
        generalize (L kk).length = n0 at *
        go_wp2_with fail
        refine HC.out.mono ?_
        rintro e w1 ⟨rfl, hb1⟩
        have HX := Lib.hid hx.out
        generalize checkLine (L kk) 1048576 68719476736 = e1 at *
        go_wp2_with fail
        go_ret
        exact ⟨ret_int (by rw [← hr.out, HS.out, if_pos hz, HX.out]), (BW.out.alloc BW.out.size _).trans (hb1.mono (by have := BW.out.size; simp; omega))⟩
    · go_wp2_with fail
      go_ret
      exact ⟨by rw [← hr.out, show m - kk = 0 by omega]; rfl, BW.out⟩

theorem asc_step (l : List Int) (k : Nat) (h : k + 1 < l.length) : ascends (pick l k) (l.drop (k + 1)) = (decide (pick l k < pick l (k + 1)) && ascends (pick l (k + 1)) (l.drop (k + 1 + 1))) := by
  have hp : pick l (k + 1) = l[k + 1] := by simp [pick, h]
  rw [List.drop_eq_getElem_cons h, ascends, hp]

set_option maxHeartbeats 1000000 in
theorem checkEnds_loop (l : List Int) (b off c : Nat) (w : World) (hb : b < w.heap.size) (h0 : 0 < l.length) (h5 : l.length ≤ 5) (hcap : l.length ≤ c) (hany : (l.any fun z => !within z 1 1048576) = false)
    (hc : ∀ i, i < l.length → w.cell? ⟨b, off + i, none⟩ = some (.int .i64 (pick l i))) :
    Calls Try.prog 71 #[.slice (some ⟨b, off, none⟩) l.length c] w fun e w' => e = .returned (.int .i64 (if ascends (pick l 0) (l.drop 1) then 0 else 11)) ∧ Below w.heap.size w w' := by
  have H := Lib.hid (contains_int64 99 #[] enters_checkEnds1 (fun i => !within (pick l i) 1 1048576) (fun i => .int .i64 (pick l i)) (some ⟨b, off, none⟩) l.length c w (by omega)
    (fun _ => ⟨b, off, rfl, hb, hc⟩) (fun i _ W _ => (casing_checkEnds1 _ W).mono fun _ _ ⟨he, hw⟩ => ⟨he, hw ▸ Below.refl _ _⟩))
  rw [any_get (fun z => !within z 1 1048576) l _ (fun i hi => by simp [pick, hi]), hany] at H
  have HC := Lib.hid hc
  clear hc hany
  generalize hres : (if ascends (pick l 0) (l.drop 1) then (0 : Int) else 11) = res
  have HR := Lib.hid hres
  clear hres
  generalize hn : l.length = n at *
  have HN := Lib.hid hn
  clear hn
  have hz : ((n : Int) == 0) = false := beq_eq_false_iff_ne.2 (by omega)
  have hz2 : decide ((5 : Int) < (n : Int)) = false := decide_eq_false (by omega)
  by_cases hc1 : c = 1
  · obtain rfl : n = 1 := by omega
    subst hc1
    go_enter Try.func71, Try.ntmps71
    go_wp2_with fail
    refine H.out.mono ?_
    rintro e w1 ⟨rfl, hb1⟩
    go_wp2_with fail
    refine wp_loop_rounds 1 ?_
    rw [rounds_succ]
    go_wp2_with fail
    go_ret
    refine ⟨?_, hb1⟩
    rw [← HR.out, List.drop_eq_nil_of_le (by rw [HN.out]; omega)]
    rfl
  · go_enter Try.func71, Try.ntmps71
    go_wp2_with fail
    refine H.out.mono ?_
    rintro e w1 ⟨rfl, hb1⟩
    go_wp2_with fail
    go_loopw [19] (fun s19 wr => ∃ k : Nat, k ≤ n - 1 ∧ s19 = .int .i64 k ∧ Hid ((if ascends (pick l k) (l.drop (k + 1)) then (0 : Int) else 11) = res) ∧ Hid (Below w.heap.size w wr)) (fun s19 _ => n - 1 - (intOf s19).toNat)
    case atStart => exact ⟨0, Nat.zero_le _, rfl, HR, hb1⟩
    case round =>
      obtain ⟨k, hk, rfl, hr, BW⟩ := hrel
      by_cases hlt : k < n - 1
      · have d0 := oldCell BW.out hb (HC.out k (by omega))
        have d1 := oldCell BW.out hb (HC.out (k + 1) (by omega))
        have hs := Lib.hid (asc_step l k (by rw [HN.out]; omega))
        by_cases hq : pick l (k + 1) ≤ pick l k
        · go_wp2_with fail
          go_region
          go_wp2_with fail
          go_ret
          refine ⟨?_, (by repeat (first | exact Below.refl _ _ | assumption | refine Below.setCell ?_ (by first | (simp; done) | (simp; omega)) _ | refine belowDrewN ?_ _ | refine Below.drew ?_ | refine Below.alloc ?_ (by first | (simp; done) | (simp; omega)) _))⟩
          rw [← hr.out, hs.out, decide_eq_false (by omega)]
          rfl
        · go_wp2_with fail
          go_region
          go_wp2_with fail
          go_roundw
          case rel => exact ⟨k + 1, by omega, by go_num, by unfold Hid; rw [← hr.out, hs.out, decide_eq_true (by omega), Bool.true_and], BW.out.drew⟩
          case measure => simp [intOf]; omega
      · obtain rfl : k = n - 1 := by omega
        go_wp2_with fail
        go_ret
        refine ⟨?_, BW.out⟩
        rw [← hr.out, List.drop_eq_nil_of_le (by rw [HN.out]; omega)]
        rfl

end Go.Proofs.Ytannipfohicpmaa
