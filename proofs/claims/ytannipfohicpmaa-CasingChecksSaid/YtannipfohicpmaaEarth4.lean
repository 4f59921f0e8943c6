/- Walks of the package earth, fourth part: the value of a line at a place. -/
import Derived.Test.YtannipfohicpmaaEarth3
namespace Go.Proofs.Ytannipfohicpmaa
open Go.RowKit Go.Shelf Mpl

theorem earth_find (ks : List Knot) (v0 : Value) (x a v : Int) (w : World) (hv : LineV w w.heap.size v0 ks) (hg : GoodLine ks a v) :
    Calls Try.prog 96 #[v0, .int .i64 x] w fun e w' =>
      e = .returned (.agg #[.int .i64 (kn ks (if decide (before x ks < ks.length ∧ (kn ks (before x ks)).At = x) then before x ks else before x ks - 1)).At, .int .i64 (kn ks (if decide (before x ks < ks.length ∧ (kn ks (before x ks)).At = x) then before x ks else before x ks - 1)).V, .int .i64 (kn ks (min (before x ks) (ks.length - 1))).At, .int .i64 (kn ks (min (before x ks) (ks.length - 1))).V]) ∧ Below w.heap.size w w' := by
  obtain ⟨A, c, rfl, hk⟩ := hv
  obtain ⟨blk, off, rfl, hb, hc⟩ := hk.out hg.pos
  exact find_core ks blk off c ks.length (before x ks) _ x w hb (before_le x ks) hg.few hg.pos (fun h => (of_decide_eq_true h).1)
    (fun W hW => search_knots ks _ c x W (hk.up hW hW.size) hg.few (before_iff hg x)) hc

set_option maxHeartbeats 2000000 in
theorem value_core (f0 f1 l0 l1 x W N D H : Int) (A : Option Addr) (n c : Nat) (w : World)
    (h1 : ∀ W, Below w.heap.size w W → Calls Try.prog 96 #[.agg #[.slice A n c], .int .i64 x] W fun e W' => e = .returned (.agg #[.int .i64 f0, .int .i64 f1, .int .i64 l0, .int .i64 l1]) ∧ Below W.heap.size W W')
    (h2 : ∀ w, Calls Try.prog 97 #[.agg #[.int .i64 f0, .int .i64 f1, .int .i64 l0, .int .i64 l1], .int .i64 x] w fun e w' => e = .returned (.tuple #[.int .i64 W, .int .i64 N, .int .i64 D]) ∧ Below w.heap.size w w')
    (hW : -4611686018427387904 ≤ W) (hW2 : W ≤ 4611686018427387904) (hN : (N = 0 ∧ H = W) ∨ (N = 1 ∧ H = W + 1) ∨ (1 < N ∧ H = W + 1)) :
    Calls Try.prog 66 #[.agg #[.slice A n c], .int .i64 x] w fun e w' => e = .returned (.agg #[.int .i64 W, .int .i64 H]) ∧ Below w.heap.size w w' := by
  have hB := ((Below.refl w.heap.size w).alloc (Nat.le_refl _) (.cells #[.slice A n c] 24)).alloc (by simp) (.cells #[.int .i64 0, .int .i64 0] 66)
  have H1 := Lib.hid (h1 _ hB)
  have H2 := Lib.hid h2
  clear h1 h2
  rcases hN with ⟨rfl, rfl⟩ | ⟨rfl, rfl⟩ | ⟨hN, rfl⟩
  all_goals
    go_enter Try.func66, Try.ntmps66
    go_wp2_with fail
    refine H1.out.mono ?_
    rintro e w1 ⟨rfl, hb1⟩
    go_wp2_with fail
    refine (H2.out _).mono ?_
    rintro e w2 ⟨rfl, hb2⟩
    have hb3 := hb1.trans (hb2.mono hb1.size)
    have b1 : Box w2 (w.heap.size + 1) _ _ := (Box.new (w.alloc (.cells #[.slice A n c] 24)) 66 #[.int .i64 0, .int .i64 0] (by simp)).under hb3
    have hB1 := hB.trans (hb3.mono (by simp; omega))
    have q1 := b1.cell 0
    have q2 := b1.cell 1
    have q5 := b1.frozen 0
    have q6 := b1.frozen 1
    simp only [List.getElem?_toArray, List.getElem?_cons_zero, List.getElem?_cons_succ] at q1 q2
    go_wp2_with fail
    refine bodyPost_ret ?_ rfl ⟨rfl, ?_⟩
    · simp [results, Try.results66, go_sem, q1, q2]
    · exact (hB1.setCell (by simp) _).setCell (by simp) _

theorem earth_value (ks : List Knot) (v0 : Value) (x : Int) (w : World) (hv : LineV w w.heap.size v0 ks) (hr : right ks = true) :
    Calls Try.prog 66 #[v0, .int .i64 x] w fun e w' => e = .returned (.agg #[.int .i64 (value ks x).Lo, .int .i64 (value ks x).Hi]) ∧ Below w.heap.size w w' := by
  obtain ⟨a, v, hg, ha, hvv, hav⟩ := right_good hr
  have hf := fun W (hW : Below w.heap.size w W) => earth_find ks v0 x a v W (hv.below hW) hg
  obtain ⟨A, c, rfl, hk⟩ := hv
  have hpos := hg.pos
  have hle := before_le x ks
  by_cases h0 : before x ks = 0
  · rw [show value ks x = ⟨(kn ks 0).V, (kn ks 0).V⟩ by simp [value, h0]]
    dsimp only
    have hf0 : (if decide (before x ks < ks.length ∧ (kn ks (before x ks)).At = x) then before x ks else before x ks - 1) = 0 := by rw [h0]; simp
    rw [hf0, show min (before x ks) (ks.length - 1) = 0 by omega] at hf
    have hb := hg.v0 0 hpos
    exact value_core _ _ _ _ x _ 0 1 _ A _ c w hf (fun w => part_same _ _ x w) (by omega) (by omega) (.inl ⟨rfl, rfl⟩)
  by_cases hn : before x ks = ks.length
  · rw [show value ks x = ⟨(kn ks (ks.length - 1)).V, (kn ks (ks.length - 1)).V⟩ by unfold value; rw [if_neg h0, if_pos hn]]
    dsimp only
    have hf0 : (if decide (before x ks < ks.length ∧ (kn ks (before x ks)).At = x) then before x ks else before x ks - 1) = ks.length - 1 := by rw [hn]; simp
    rw [hf0, show min (before x ks) (ks.length - 1) = ks.length - 1 by omega] at hf
    have hb := hg.v0 (ks.length - 1) (by omega)
    exact value_core _ _ _ _ x _ 0 1 _ A _ c w hf (fun w => part_same _ _ x w) (by omega) (by omega) (.inl ⟨rfl, rfl⟩)
  have hvl : value ks x = between (kn ks (before x ks - 1)) (kn ks (before x ks)) x := by unfold value; rw [if_neg h0, if_neg hn]
  rw [hvl, between]
  dsimp only
  have hlt1 := hg.up (before x ks - 1) (by omega)
  rw [show before x ks - 1 + 1 = before x ks by omega] at hlt1
  have hlt2 := before_lt x ks (before x ks - 1) (by omega)
  have hge := before_ge x ks (by omega)
  have va := hg.v0 (before x ks - 1) (by omega)
  have vb := hg.v0 (before x ks) (by omega)
  have aa := hg.at0 (before x ks - 1) (by omega)
  have ab := hg.at0 (before x ks) (by omega)
  rw [show min (before x ks) (ks.length - 1) = before x ks by omega] at hf
  by_cases ht : (kn ks (before x ks)).At = x
  · have hf0 : (if decide (before x ks < ks.length ∧ (kn ks (before x ks)).At = x) then before x ks else before x ks - 1) = before x ks := by
      rw [if_pos (decide_eq_true ⟨by omega, ht⟩)]
    rw [hf0] at hf
    generalize kn ks (before x ks) = kb at *
    generalize kn ks (before x ks - 1) = ka at *
    subst ht
    have e1 : (kb.V - ka.V) * (kb.At - ka.At) / (kb.At - ka.At) = kb.V - ka.V := Int.mul_ediv_cancel _ (by omega)
    have e2 : -((kb.V - ka.V) * (kb.At - ka.At)) / (kb.At - ka.At) = -(kb.V - ka.V) := by rw [← Int.neg_mul]; exact Int.mul_ediv_cancel _ (by omega)
    simp only [e1, e2]
    rw [show ka.V + (kb.V - ka.V) = kb.V by omega, show ka.V - -(kb.V - ka.V) = kb.V by omega]
    exact value_core _ _ _ _ _ _ 0 1 _ A _ c w hf (fun w => part_same _ _ _ w) (by omega) (by omega) (.inl ⟨rfl, rfl⟩)
  · have hf0 : (if decide (before x ks < ks.length ∧ (kn ks (before x ks)).At = x) then before x ks else before x ks - 1) = before x ks - 1 := by
      rw [if_neg (by simp [ht])]
    rw [hf0] at hf
    generalize kn ks (before x ks) = kb at *
    generalize kn ks (before x ks - 1) = ka at *
    have hp := prod_small (kb.V - ka.V) (x - ka.At) a v (by omega) (by omega) (by omega) (by omega) hav
    have hce := ceil_eq ((kb.V - ka.V) * (x - ka.At)) (kb.At - ka.At) (by omega)
    have hroom := part_room (kb.At - ka.At) (kb.V - ka.V) (x - ka.At) (by omega) (by omega) (by omega) (by omega)
    have q1 : -68719476736 ≤ (kb.V - ka.V) * (x - ka.At) / (kb.At - ka.At) := Int.le_ediv_of_mul_le (by omega) hroom.1
    have q2 : (kb.V - ka.V) * (x - ka.At) / (kb.At - ka.At) ≤ 68719476736 := Int.ediv_le_of_le_mul (by omega) hroom.2
    have q3 := Int.emod_nonneg ((kb.V - ka.V) * (x - ka.At)) (show kb.At - ka.At ≠ 0 by omega)
    exact value_core _ _ _ _ x _ _ _ _ A _ c w hf (fun w => part_at _ _ _ _ x w hlt1 hp.1 hp.2 (by omega) (by omega) (by omega) (by omega) (by omega) (by omega) (by omega) hge) (by omega) (by omega) (by omega)

set_option maxHeartbeats 1000000 in
/-- the value of a line at a place, whatever the line is -/
theorem earth_At (ks : List Knot) (v0 : Value) (x : Int) (w : World) (hv : LineV w w.heap.size v0 ks) :
    Calls Try.prog 39 #[v0, .int .i64 x] w fun e w' => e = .returned (.agg #[.int .i64 (At ks x).Lo, .int .i64 (At ks x).Hi]) ∧ Below w.heap.size w w' := by
  have HV := Lib.hid hv
  obtain ⟨A, c, rfl, hk⟩ := hv
  have HK := Lib.hid hk
  clear hk
  generalize hn : ks.length = n at *
  have HN := Lib.hid hn
  clear hn
  have hB := (((Below.refl w.heap.size w).alloc (Nat.le_refl _) (.cells #[.slice A n c] 24)).alloc (by simp) (.cells #[.int .i64 0, .int .i64 0] 66)).alloc (by simp; omega) (.cells #[.slice A n c] 24)
  have h1 := Lib.hid (earth_right (w.heap.size + 1 + 1) n c 1 A ks _ HN.out.symm (HK.out.up hB hB.size) (by simp) (by have := (Box.new ((w.alloc (.cells #[.slice A n c] 24)).alloc (.cells #[.int .i64 0, .int .i64 0] 66)) 24 #[.slice A n c] (g := w.heap.size + 1 + 1) (by simp)).cell 0; exact this))
  cases hr : right ks
  · have hs := Lib.hid (show At ks x = ⟨0, 0⟩ by simp [At, hr])
    rw [hr] at h1
    go_enter Try.func39, Try.ntmps39
    go_wp2_with fail
    refine h1.out.mono ?_
    rintro e w1 ⟨rfl, hb1⟩
    have hB1 := hB.trans (hb1.mono hB.size)
    have b1 : Box w1 (w.heap.size + 1) _ _ := ((Box.new (w.alloc (.cells #[.slice A n c] 24)) 66 #[.int .i64 0, .int .i64 0] (by simp)).alloc _).under hb1
    have q1 := b1.cell 0
    have q2 := b1.cell 1
    have q5 := b1.frozen 0
    have q6 := b1.frozen 1
    simp only [List.getElem?_toArray, List.getElem?_cons_zero, List.getElem?_cons_succ] at q1 q2
    go_wp2_with fail
    refine bodyPost_ret (v := .agg #[.int .i64 0, .int .i64 0]) ?_ rfl ⟨by rw [hs.out], ?_⟩
    · simp [results, Try.results39, go_sem, q1, q2]
    · exact (hB1.setCell (by simp) _).setCell (by simp) _
  · have hs := Lib.hid (show At ks x = value ks x by simp [At, hr])
    rw [hr] at h1
    go_enter Try.func39, Try.ntmps39
    go_wp2_with fail
    refine h1.out.mono ?_
    rintro e w1 ⟨rfl, hb1⟩
    have hB1 := hB.trans (hb1.mono hB.size)
    have hval := Lib.hid (earth_value ks _ x w1 (HV.out.below hB1) hr)
    have b0 : Box w1 w.heap.size _ _ := (((Box.new w 24 #[.slice A n c] rfl).alloc (.cells #[.int .i64 0, .int .i64 0] 66)).alloc _).under hb1
    have b1 : Box w1 (w.heap.size + 1) _ _ := ((Box.new (w.alloc (.cells #[.slice A n c] 24)) 66 #[.int .i64 0, .int .i64 0] (by simp)).alloc _).under hb1
    have q0 := b0.cell 0
    simp only [List.getElem?_toArray, List.getElem?_cons_zero] at q0
    go_wp2_with fail
    refine hval.out.mono ?_
    rintro e w2 ⟨rfl, hb2⟩
    have b2 := b1.under hb2
    have q1 := b2.cell 0
    have q2 := b2.cell 1
    have q5 := b2.frozen 0
    have q6 := b2.frozen 1
    simp only [List.getElem?_toArray, List.getElem?_cons_zero, List.getElem?_cons_succ] at q1 q2
    clear q0
    go_wp2_with fail
    refine bodyPost_ret (v := .agg #[.int .i64 (value ks x).Lo, .int .i64 (value ks x).Hi]) ?_ rfl ⟨by rw [hs.out], ?_⟩
    · simp [results, Try.results39, go_sem, q1, q2]
    · exact ((hB1.trans (hb2.mono hB1.size)).setCell (by simp) _).setCell (by simp) _

end Go.Proofs.Ytannipfohicpmaa
