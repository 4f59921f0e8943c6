/- Walks of the package earth: lines are checked, and their values found, as the plain functions say. -/
import Derived.Test.YtannipfohicpmaaBase
namespace Go.Proofs.Ytannipfohicpmaa
open Go.RowKit Mpl

theorem earth_within (n lo hi : Int) (w : World) :
    Calls Try.prog 108 #[.int .i64 n, .int .i64 lo, .int .i64 hi] w fun e w' => e = .returned (.bool (within n lo hi)) ∧ w = w' := by
  unfold within
  by_cases h1 : lo ≤ n
  · by_cases h2 : n ≤ hi
    · go_enter Try.func108, Try.ntmps108
      go_wp2
      go_ret
      simp [h1, h2]
    · go_enter Try.func108, Try.ntmps108
      go_wp2
      go_ret
      simp [h2]
  · go_enter Try.func108, Try.ntmps108
    go_wp2
    go_ret
    simp
    omega

theorem checkKnots_step (at_ v last : Int) (ks : List Knot) (i : Nat) (h : i < ks.length) :
    checkKnots at_ v last (ks.drop i) = if within (kn ks i).At 0 at_ && within (kn ks i).V 0 v then (if (kn ks i).At ≤ last then 11 else checkKnots at_ v (kn ks i).At (ks.drop (i + 1))) else 2 := by
  rw [List.drop_eq_getElem_cons h, checkKnots]
  simp [kn, h]

set_option maxHeartbeats 400000 in
theorem earth_CheckLine_loop (ks : List Knot) (b off : Nat) (c : Nat) (at_ v : Int) (w : World) (hb : b < w.heap.size)
    (hk : ∀ i, i < ks.length → w.cell? ⟨b, off + i * 2, none⟩ = some (.int .i64 (kn ks i).At) ∧ w.cell? ⟨b, off + i * 2 + 1, none⟩ = some (.int .i64 (kn ks i).V))
    (h0 : 0 < ks.length) (h24 : ks.length ≤ 24) (h1 : within at_ 0 1099511627776 = true) (h2 : within v 0 68719476736 = true) :
    Calls Try.prog 95 #[.agg #[.slice (some ⟨b, off, none⟩) ks.length c], .int .i64 at_, .int .i64 v] w fun e w' => e = .returned (.int .i64 (checkKnots at_ v (-1) ks)) ∧ Below w.heap.size w w' := by
  have HK := Lib.hid hk
  clear hk
  generalize hn : ks.length = n at *
  have HN := Lib.hid hn
  clear hn
  generalize hres : checkKnots at_ v (-1) ks = res at *
  have HR := Lib.hid hres
  clear hres
  have hz : ((n : Int) == 0) = false := by simp; omega
  have hz2 : decide ((24 : Int) < (n : Int)) = false := by simp; omega
  go_enter Try.func95, Try.ntmps95
  go_wp2_with (go_at_call 108; refine (earth_within _ _ _ _).mono ?_; rintro e w' ⟨rfl, rfl⟩)
  go_loopw [7, 32] (fun l i wr => ∃ (k : Nat) (last : Int), k ≤ n ∧ i = .int .i64 k ∧ l = .int .i64 last ∧ Hid (checkKnots at_ v last (ks.drop k) = res) ∧ Below (w.heap.size) w wr) (fun _ i _ => n - (intOf i).toNat)
  case atStart => exact ⟨0, -1, Nat.zero_le _, rfl, rfl, HR, (Below.refl _ _).alloc (Nat.le_refl _) _⟩
  case round =>
    obtain ⟨k, last, hk, rfl, rfl, hr, hbl⟩ := hrel
    have hsz := hbl.size
    by_cases hlt : k < n
    · obtain ⟨c0, c1⟩ := HK.out k hlt
      have d0 : wr.cell? ⟨b, off + k * 2, none⟩ = _ := (hbl.cell (p := ⟨b, off + k * 2, none⟩) hb).trans c0
      have d1 : wr.cell? ⟨b, off + k * 2 + 1, none⟩ = _ := (hbl.cell (p := ⟨b, off + k * 2 + 1, none⟩) hb).trans c1
      clear c0 c1
      have hst := Lib.hid (checkKnots_step at_ v last ks k (by rw [HN.out]; exact hlt))
      cases e1 : within (kn ks k).At 0 at_
      · go_wp2_with (go_at_call 108; refine (earth_within _ _ _ _).mono ?_; rintro e w' ⟨rfl, rfl⟩)
        go_ret
        exact ⟨by rw [← hr.out, hst.out, e1]; rfl, hbl.alloc hsz _⟩
      · cases e2 : within (kn ks k).V 0 v
        · go_wp2_with (go_at_call 108; refine (earth_within _ _ _ _).mono ?_; rintro e w' ⟨rfl, rfl⟩)
          go_ret
          exact ⟨by rw [← hr.out, hst.out, e1, e2]; rfl, hbl.alloc hsz _⟩
        · by_cases e3 : (kn ks k).At ≤ last
          · go_wp2_with (go_at_call 108; refine (earth_within _ _ _ _).mono ?_; rintro e w' ⟨rfl, rfl⟩)
            go_ret
            exact ⟨by rw [← hr.out, hst.out, e1, e2, if_pos e3]; rfl, hbl.alloc hsz _⟩
          · go_wp2_with (go_at_call 108; refine (earth_within _ _ _ _).mono ?_; rintro e w' ⟨rfl, rfl⟩)
            go_roundw
            case rel => exact ⟨k + 1, _, hlt, by go_num, rfl, by unfold Hid; rw [← hr.out, hst.out, e1, e2, Bool.and_self, if_pos rfl, if_neg (by omega)], hbl.alloc hsz _⟩
            case measure => simp [intOf]; omega
    · go_wp2_with fail
      go_ret
      exact ⟨by rw [← hr.out, List.drop_eq_nil_of_le (by rw [HN.out]; omega)]; rfl, hbl⟩

set_option maxHeartbeats 400000 in
theorem earth_CheckLine (v0 : Value) (ks : List Knot) (at_ v : Int) (w : World) (hv : LineV w w.heap.size v0 ks) :
    Calls Try.prog 95 #[v0, .int .i64 at_, .int .i64 v] w fun e w' => e = .returned (.int .i64 (checkLine ks at_ v)) ∧ Below w.heap.size w w' := by
  obtain ⟨A, c, rfl, hk⟩ := hv
  cases h1 : within at_ 0 1099511627776
  · have hs : Hid (checkLine ks at_ v = 2) := by simp [checkLine, h1, Hid]
    clear hk
    go_enter Try.func95, Try.ntmps95
    go_wp2_with (go_at_call 108; refine (earth_within _ _ _ _).mono ?_; rintro e w' ⟨rfl, rfl⟩)
    go_ret
    exact ⟨by rw [hs.out]; rfl, (Below.refl _ _).alloc (Nat.le_refl _) _⟩
  cases h2 : within v 0 68719476736
  · have hs : Hid (checkLine ks at_ v = 2) := by simp [checkLine, h2, Hid]
    clear hk
    go_enter Try.func95, Try.ntmps95
    go_wp2_with (go_at_call 108; refine (earth_within _ _ _ _).mono ?_; rintro e w' ⟨rfl, rfl⟩)
    go_ret
    exact ⟨by rw [hs.out]; rfl, (Below.refl _ _).alloc (Nat.le_refl _) _⟩
  by_cases h0 : ks.length = 0
  · have hs : Hid (checkLine ks at_ v = 6) := by simp [checkLine, h1, h2, h0, Hid]
    clear hk
    rw [h0]
    have hz : (((0 : Nat) : Int) == 0) = true := by simp
    clear h0
    go_enter Try.func95, Try.ntmps95
    go_wp2_with (go_at_call 108; refine (earth_within _ _ _ _).mono ?_; rintro e w' ⟨rfl, rfl⟩)
    go_ret
    exact ⟨by rw [hs.out]; rfl, (Below.refl _ _).alloc (Nat.le_refl _) _⟩
  by_cases h24 : 24 < ks.length
  · have hs : Hid (checkLine ks at_ v = 8) := by simp [checkLine, h1, h2, h0, h24, Hid]
    clear hk
    have hz : ((ks.length : Int) == 0) = false := beq_eq_false_iff_ne.2 (by omega)
    have hz2 : decide ((24 : Int) < (ks.length : Int)) = true := decide_eq_true (by omega)
    clear h0
    generalize ks.length = n at *
    go_enter Try.func95, Try.ntmps95
    go_wp2_with (go_at_call 108; refine (earth_within _ _ _ _).mono ?_; rintro e w' ⟨rfl, rfl⟩)
    go_ret
    exact ⟨by rw [hs.out]; rfl, (Below.refl _ _).alloc (Nat.le_refl _) _⟩
  obtain ⟨b, off, rfl, hb, hc⟩ := hk.out (by omega)
  have hs : checkLine ks at_ v = checkKnots at_ v (-1) ks := by simp [checkLine, h1, h2, h0, h24]
  rw [hs]
  exact earth_CheckLine_loop ks b off c at_ v w hb hc (by omega) (by omega) h1 h2

end Go.Proofs.Ytannipfohicpmaa
