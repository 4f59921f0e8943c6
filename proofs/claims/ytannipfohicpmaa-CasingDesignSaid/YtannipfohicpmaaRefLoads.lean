/- Walks of the reference of layer 5: the loads inside and outside, and what is needed. -/
import Derived.Test.YtannipfohicpmaaRef02d
namespace Go.Proofs.Ytannipfohicpmaa
open Go.RowKit Go.Shelf Mpl

set_option maxHeartbeats 1000000 in
theorem ref05_line (v0 : Value) (ks : List Knot) (w : World) (hv : LineV w w.heap.size v0 ks) :
    Calls Try.prog 77 #[v0] w fun e w' => e = .returned (.int .i64 (okLine ks)) ∧ Below w.heap.size w w' := by
  have HV := Lib.hid hv
  obtain ⟨A, c, rfl, _⟩ := hv
  have HC1 := Lib.hid (fun W (hW : Below w.heap.size w W) => ref02_CheckLine _ ks 1048576 68719476736 W (HV.out.below hW))
  unfold okLine
  generalize checkLine ks 1048576 68719476736 = e1 at *
  generalize ks.length = n at *
  have HB := Lib.hid ((Below.refl w.heap.size w).alloc (Nat.le_refl _) (.cells #[.slice A n c] 24))
  go_enter Try.func77, Try.ntmps77
  go_wp2_with fail
  refine (HC1.out _ HB.out).mono ?_
  rintro e w1 ⟨rfl, hb1⟩
  go_wp2_with fail
  go_ret
  exact ⟨rfl, HB.out.trans (hb1.mono HB.out.size)⟩

set_option maxHeartbeats 1000000 in
theorem ref05_Needed (q factor : Int) (w : World) :
    Calls Try.prog 20 #[.int .i64 q, .int .i64 factor] w fun e w' => e = .returned (.int .i64 (needed q factor)) ∧ w = w' := by
  by_cases hr : -68719476736 ≤ q ∧ q ≤ 68719476736 ∧ 1000 ≤ factor ∧ factor ≤ 3000
  case neg =>
    have hs := Lib.hid (show needed q factor = 0 by unfold needed; rw [if_neg]; simp [within]; omega)
    have hc : q < -68719476736 ∨ (-68719476736 ≤ q ∧ 68719476736 < q) ∨ (-68719476736 ≤ q ∧ q ≤ 68719476736 ∧ factor < 1000) ∨ (-68719476736 ≤ q ∧ q ≤ 68719476736 ∧ 1000 ≤ factor ∧ 3000 < factor) := by omega
    clear hr
    rcases hc with h1 | ⟨h1, h2⟩ | ⟨h1, h2, h3⟩ | ⟨h1, h2, h3, h4⟩
    · have d1 : decide (q < -68719476736) = true := decide_eq_true (by omega)
      go_enter Try.func20, Try.ntmps20
      go_wp2_with fail
      go_ret
      exact ⟨ret_int hs.out.symm, rfl⟩
    · have d1 : decide (q < -68719476736) = false := decide_eq_false (by omega)
      have d2 : decide (68719476736 < q) = true := decide_eq_true (by omega)
      go_enter Try.func20, Try.ntmps20
      go_wp2_with fail
      go_ret
      exact ⟨ret_int hs.out.symm, rfl⟩
    · have d1 : decide (q < -68719476736) = false := decide_eq_false (by omega)
      have d2 : decide (68719476736 < q) = false := decide_eq_false (by omega)
      have d3 : decide (factor < 1000) = true := decide_eq_true (by omega)
      go_enter Try.func20, Try.ntmps20
      go_wp2_with fail
      go_ret
      exact ⟨ret_int hs.out.symm, rfl⟩
    · have d1 : decide (q < -68719476736) = false := decide_eq_false (by omega)
      have d2 : decide (68719476736 < q) = false := decide_eq_false (by omega)
      have d3 : decide (factor < 1000) = false := decide_eq_false (by omega)
      have d4 : decide (3000 < factor) = true := decide_eq_true (by omega)
      go_enter Try.func20, Try.ntmps20
      go_wp2_with fail
      go_ret
      exact ⟨ret_int hs.out.symm, rfl⟩
  obtain ⟨e3, e4, e5, e6⟩ := hr
  have hs := Lib.hid (show needed q factor = (max q 0 * factor + 999) / 1000 by unfold needed; rw [if_pos]; simp [within]; omega)
  have d1 : decide (q < -68719476736) = false := decide_eq_false (by omega)
  have d2 : decide (68719476736 < q) = false := decide_eq_false (by omega)
  have d3 : decide (factor < 1000) = false := decide_eq_false (by omega)
  have d4 : decide (3000 < factor) = false := decide_eq_false (by omega)
  by_cases hq : 0 < q
  · rw [show max q 0 = q by omega] at hs
    obtain ⟨r1, r2⟩ := mul_room q factor (by omega) e4 e5 e6
    go_enter Try.func20, Try.ntmps20
    go_wp2_with fail
    go_ret
    exact ⟨ret_int hs.out.symm, rfl⟩
  · rw [show max q 0 = 0 by omega] at hs
    go_enter Try.func20, Try.ntmps20
    go_wp2_with fail
    go_ret
    exact ⟨ret_int (by rw [hs.out]; simp), rfl⟩

/-- the fold of the reference -/
def refold (ex : Int → Int) (lo hi : Int) (l : List Int) (o : Int) : Int := l.foldl (fun o z => if lo ≤ z ∧ z ≤ hi then max o (ex z) else o) o
theorem refold_filter (ex : Int → Int) (lo hi : Int) (l : List Int) (o : Int) : refold ex lo hi l o = (l.filter fun z => within z lo hi).foldl (fun o z => max o (ex z)) o := by
  induction l generalizing o with
  | nil => rfl
  | cons z l ih =>
    unfold refold at ih ⊢
    rw [List.foldl_cons, List.filter_cons]
    by_cases h : lo ≤ z ∧ z ≤ hi
    · rw [if_pos h, if_pos (by simp [within, h]), List.foldl_cons, ih]
    · rw [if_neg h, if_neg (by simp [within]; omega), ih]
theorem refold_places (a b : List Knot) (lo hi : Int) (h : lo ≤ hi) : refold (excessAt a b) lo hi ([lo, hi] ++ a.map Knot.At ++ b.map Knot.At) (excessAt a b lo) = (places a b lo hi).foldl (fun o z => max o (excessAt a b z)) (excessAt a b lo) := by
  rw [refold_filter, List.append_assoc, List.filter_append, ← List.map_append]
  have : ([lo, hi].filter fun z => within z lo hi) = [lo, hi] := by simp [within, h]
  rw [this, places]
  simp only [List.cons_append, List.nil_append, List.foldl_cons]
  rw [show max (excessAt a b lo) (excessAt a b lo) = excessAt a b lo by omega]
theorem refold_step (ex : Int → Int) (lo hi : Int) (l : List Int) (k : Nat) (h : k < l.length) (o : Int) : refold ex lo hi (l.drop k) o = refold ex lo hi (l.drop (k + 1)) (if lo ≤ pick l k ∧ pick l k ≤ hi then max o (ex (pick l k)) else o) := by
  unfold refold
  rw [List.drop_eq_getElem_cons h, List.foldl_cons, pick_get l k h]

theorem take_map_step (ks : List Knot) (k : Nat) (h : k < ks.length) : (ks.take (k + 1)).map Knot.At = (ks.take k).map Knot.At ++ [(kn ks k).At] := by
  rw [List.take_succ_eq_append_getElem h, List.map_append]
  simp [kn, h]

end Go.Proofs.Ytannipfohicpmaa
