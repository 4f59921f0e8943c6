/- Walks of the package path, at the path that TopStatic shows awake: the check. -/
import Derived.Test.YtnhnheigdlnokaaPath2
import Derived.Test.YtnhnheigdlnokaaHeld4
import Derived.Deep.DeepCutAuto
import Derived.Deep.QuietTactic
import Derived.BigQuiet
import Derived.Deep.RegionHeld3
namespace Go.Proofs.Ytnhnheigdlnokaa
open Go.RowKit Go.Shelf Mpl
attribute [local go_sem] Oper.semAt_some

/-- the path's legs and the path -/
structure PathAt (W : World) (g : Nat) : Prop where
  legs : Box W g 69 #[.int .i64 0, .int .i64 0, .int .i64 50000, .int .i64 0, .int .i64 30000, .int .i64 40000]
theorem PathAt.under {W W' : World} {g : Nat} (h : PathAt W g) (hb : Below W.heap.size W W') : PathAt W' g := ⟨h.legs.under hb⟩
theorem PathAt.cells0 {W : World} {g : Nat} (h : PathAt W g) : W.cell? ⟨g, 0, none⟩ = some (.int .i64 0) ∧ W.cell? ⟨g, 1, none⟩ = some (.int .i64 0) ∧ W.cell? ⟨g, 2, none⟩ = some (.int .i64 50000) := ⟨h.legs.cell 0, h.legs.cell 1, h.legs.cell 2⟩
theorem PathAt.cells1 {W : World} {g : Nat} (h : PathAt W g) : W.cell? ⟨g, 3, none⟩ = some (.int .i64 0) ∧ W.cell? ⟨g, 4, none⟩ = some (.int .i64 30000) ∧ W.cell? ⟨g, 5, none⟩ = some (.int .i64 40000) := ⟨h.legs.cell 3, h.legs.cell 4, h.legs.cell 5⟩
theorem path_cells {w : World} {g t : Nat} {a b c d : Value} (h : Box w g t #[a, b, c, d]) : w.cell? ⟨g, 0, none⟩ = some a ∧ w.cell? ⟨g, 1, none⟩ = some b ∧ w.cell? ⟨g, 2, none⟩ = some c ∧ w.cell? ⟨g, 3, none⟩ = some d := ⟨h.cell 0, h.cell 1, h.cell 2, h.cell 3⟩

theorem AnyBut.onlyW {P : Program} {md : Region.Mode} {ops : Array Oper} {Q : Exit → Act → World → Prop} {S : World → Prop} {z i : Nat} {o : Oper} {m : Nat} {b : Array Bool} {a : Act} {w : World} (hr : Region.ready md ops b = [i]) (ho : ops[i]? = some o) (hg : Region.wanted o (yielded ops a.tmps) = true)
    (h : ∀ K : Act → World → Prop, (∀ a' w', (i ≠ z → S w') → AnyBut P md ops Q S z m (b.setIfInBounds i true) a' w' → K a' w') → o.wp P a w K Q) : AnyBut P md ops Q S z (m + 1) b a w :=
  ⟨fun h0 => (by rw [hr] at h0; cases h0), fun j hj => by
    rw [hr, List.mem_singleton] at hj
    subst hj
    unfold wpOp
    simp only [ho]
    rw [if_pos hg]
    exact .inl (h _ fun a' w' h1 h2 => ⟨h1, h2⟩)⟩

/-- what the check holds in memory -/
structure CkSt (w W : World) (g g1 : Nat) (a b c : Int) : Prop where
  path : Box W w.heap.size 72 #[.int .i64 0, .int .i64 0, .int .i64 0, .slice (some ⟨g, 0, none⟩) 2 2]
  at_ : Box W g1 87 #[.int .i64 a, .int .i64 b, .int .i64 c]
  legs : PathAt W g
  low : Below w.heap.size w W
theorem CkSt.under {w W W' : World} {g g1 : Nat} {a b c : Int} (h : CkSt w W g g1 a b c) (hb : Below W.heap.size W W') : CkSt w W' g g1 a b c := ⟨h.path.under hb, h.at_.under hb, h.legs.under hb, h.low.trans (hb.mono h.low.size)⟩
theorem box_ne {W : World} {g g' t t' : Nat} {cs cs' : Array Value} (h : Box W g t cs) (h' : Box W g' t' cs') (hne : t ≠ t') : g ≠ g' := fun e => by
  subst e
  unfold Box at h h'
  rw [h] at h'
  injection h' with h'
  injection h' with _ h1
  exact hne h1
theorem CkSt.put {w W : World} {g g1 : Nat} {a b c : Int} (h : CkSt w W g g1 a b c) (hg : w.heap.size ≤ g1) (x y z : Int) : CkSt w (((W.setCell ⟨g1, 0, none⟩ (.int .i64 x)).setCell ⟨g1, 1, none⟩ (.int .i64 y)).setCell ⟨g1, 2, none⟩ (.int .i64 z)) g g1 x y z :=
  have n1 := box_ne h.path h.at_ (by decide)
  have n2 := box_ne h.legs.legs h.at_ (by decide)
  ⟨((h.path.far n1 _).far n1 _).far n1 _, by simpa using ((h.at_.set_ 0 (.int .i64 x)).set_ 1 (.int .i64 y)).set_ 2 (.int .i64 z), ⟨((h.legs.legs.far n2 _).far n2 _).far n2 _⟩,
    ((h.low.setCell (p := ⟨g1, 0, none⟩) hg _).setCell (p := ⟨g1, 1, none⟩) hg _).setCell (p := ⟨g1, 2, none⟩) hg _⟩

set_option maxHeartbeats 4000000 in
set_option maxRecDepth 100000 in
theorem path_Check (g : Nat) (w : World) (hp : PathAt w g) :
    Calls Try.prog 26 #[.agg #[.int .i64 0, .int .i64 0, .int .i64 0, .slice (some ⟨g, 0, none⟩) 2 2]] w fun e w' => e = .returned (.int .i64 0) ∧ Below w.heap.size w w' := by
  have HP := Lib.hid hp
  obtain ⟨w0, hw0⟩ : ∃ w0, w.alloc (.cells #[.int .i64 0, .int .i64 0, .int .i64 0, .slice (some ⟨g, 0, none⟩) 2 2] 72) = w0 := ⟨_, rfl⟩
  have hb0 : Below w.heap.size w w0 := by rw [← hw0]; exact (Below.refl _ _).alloc (Nat.le_refl _) _
  have X0 := Lib.hid (show Box w0 w.heap.size 72 #[.int .i64 0, .int .i64 0, .int .i64 0, .slice (some ⟨g, 0, none⟩) 2 2] by rw [← hw0]; exact Box.new _ _ _ rfl)
  have P0 := Lib.hid (HP.out.under hb0)
  have L0 := Lib.hid hb0
  have HW0 := Lib.hid hw0
  clear hw0 hb0 hp HP
  obtain ⟨q0, q1, q2, q3⟩ := path_cells X0.out
  go_enter Try.func26, Try.ntmps26
  go_upto_region 1 with fail
  rw [HW0.out]
  go_wp2_with fail
  refine (valid_z _).mono ?_
  rintro e w1 ⟨rfl, hb1⟩
  have X1 := Lib.hid (X0.out.under hb1)
  have P1 := Lib.hid (P0.out.under hb1)
  have L1 := Lib.hid (L0.out.trans (hb1.mono L0.out.size))
  clear hb1 q0 q1 q2 q3 X0 P0 L0 HW0
  obtain ⟨q0, q1, q2, q3⟩ := path_cells X1.out
  go_upto_region 6 with fail
  obtain ⟨w2, hw2⟩ : ∃ w2, w1.alloc (.cells #[.int .i64 0, .int .i64 0, .int .i64 0] 87) = w2 := ⟨_, rfl⟩
  have hb2 : Below w1.heap.size w1 w2 := by rw [← hw2]; exact (Below.refl _ _).alloc (Nat.le_refl _) _
  have S2 : Hid (CkSt w w2 g w1.heap.size 0 0 0) := ⟨X1.out.under hb2, by rw [← hw2]; exact Box.new _ _ _ rfl, P1.out.under hb2, L1.out.trans (hb2.mono L1.out.size)⟩
  have hlo : w.heap.size ≤ w1.heap.size := L1.out.size
  have HW2 := Lib.hid hw2
  clear hw2 hb2 X1 P1 L1 q0 q1 q2 q3
  obtain ⟨q0, q1, q2, q3⟩ := path_cells S2.out.path
  rw [HW2.out]
  clear HW2
  go_wp2_with fail
  clear q0 q1 q2 q3
  go_loopw [24] (fun s24 wr => (s24 = .int .i64 0 ∧ Hid (CkSt w wr g w1.heap.size 0 0 0)) ∨ (s24 = .int .i64 1 ∧ Hid (CkSt w wr g w1.heap.size 0 0 50000)) ∨ (s24 = .int .i64 2 ∧ Hid (CkSt w wr g w1.heap.size 0 30000 90000))) (fun s24 _ => 2 - (intOf s24).toNat)
  case atStart => exact .inl ⟨rfl, S2⟩
  case round =>
    clear S2
    rcases hrel with ⟨rfl, S⟩ | ⟨rfl, S⟩ | ⟨rfl, S⟩
    · skip
      obtain ⟨c0, c1, c2⟩ := S.out.legs.cells0
      obtain ⟨w4, hw4⟩ : ∃ w4, (wr.alloc (.cells #[.int .i64 0, .int .i64 0, .int .i64 50000] 69)).alloc (.cells #[.int .i64 0, .int .i64 0, .int .i64 50000] 87) = w4 := ⟨_, rfl⟩
      have hb4 : Below wr.heap.size wr w4 := by rw [← hw4]; exact ((Below.refl _ _).alloc (Nat.le_refl _) _).alloc (by simp) _
      have V4 := Lib.hid (show Box w4 (wr.heap.size + 1) 87 #[.int .i64 0, .int .i64 0, .int .i64 50000] by rw [← hw4]; exact Box.new _ _ _ (by simp))
      have S4 := Lib.hid (S.out.under hb4)
      have hg4 : w1.heap.size < wr.heap.size := S.out.at_.lt
      have HW4 := Lib.hid hw4
      clear hw4 hb4 S
      obtain ⟨v0, v1, v2⟩ := vec_cells V4.out
      go_upto_region 10 with fail
      rw [HW4.out]
      clear HW4 c0 c1 c2
      go_wp2_with fail
      refine (whole_a _).mono ?_
      rintro e w5 ⟨rfl, hb5⟩
      have V5 := Lib.hid (V4.out.under hb5)
      have S5 := Lib.hid (S4.out.under hb5)
      clear hb5 V4 S4 v0 v1 v2
      go_upto_region 15 with fail
      go_quiet (fail)
      have S6 : Hid (CkSt w (w5.drewN nq) g w1.heap.size 0 0 0) := S5.out.under (belowDrewN (Below.refl _ _) _)
      have V6 : Hid (Box (w5.drewN nq) (wr.heap.size + 1) 87 #[.int .i64 0, .int .i64 0, .int .i64 50000]) := V5.out
      clear S5 V5
      generalize w5.drewN nq = w6 at *
      obtain ⟨a0, a1, a2⟩ := vec_cells S6.out.at_
      obtain ⟨v0, v1, v2⟩ := vec_cells V6.out
      go_wp2_with fail
      refine (plus_za _).mono ?_
      rintro e w7 ⟨rfl, hb7⟩
      have S7 := Lib.hid (S6.out.under hb7)
      clear hb7 V6 S6 a0 a1 a2 v0 v1 v2
      obtain ⟨a0, a1, a2⟩ := vec_cells S7.out.at_
      have f0 := S7.out.at_.frozen 0
      have f1 := S7.out.at_.frozen 1
      have f2 := S7.out.at_.frozen 2
      obtain ⟨w8, hw8⟩ : ∃ w8, ((w7.setCell ⟨w1.heap.size, 0, none⟩ (.int .i64 0)).setCell ⟨w1.heap.size, 1, none⟩ (.int .i64 0)).setCell ⟨w1.heap.size, 2, none⟩ (.int .i64 50000) = w8 := ⟨_, rfl⟩
      have S8 : Hid (CkSt w w8 g w1.heap.size 0 0 50000) := by rw [← hw8]; exact S7.out.put hlo _ _ _
      have HW8 := Lib.hid hw8
      clear hw8
      obtain ⟨b0, b1, b2⟩ := vec_cells S8.out.at_
      go_upto_region 18 with fail
      rw [HW8.out]
      clear a0 a1 a2 f0 f1 f2 S7 HW8
      go_wp2_with fail
      refine (valid_a _).mono ?_
      rintro e w9 ⟨rfl, hb9⟩
      have S9 := Lib.hid (S8.out.under hb9)
      clear hb9 b0 b1 b2 S8
      go_wp2_with fail
      go_roundw
      case rel => exact .inr (.inl ⟨rfl, S9⟩)
      case measure => simp [intOf]
    · skip
      obtain ⟨c0, c1, c2⟩ := S.out.legs.cells1
      obtain ⟨w4, hw4⟩ : ∃ w4, (wr.alloc (.cells #[.int .i64 0, .int .i64 30000, .int .i64 40000] 69)).alloc (.cells #[.int .i64 0, .int .i64 30000, .int .i64 40000] 87) = w4 := ⟨_, rfl⟩
      have hb4 : Below wr.heap.size wr w4 := by rw [← hw4]; exact ((Below.refl _ _).alloc (Nat.le_refl _) _).alloc (by simp) _
      have V4 := Lib.hid (show Box w4 (wr.heap.size + 1) 87 #[.int .i64 0, .int .i64 30000, .int .i64 40000] by rw [← hw4]; exact Box.new _ _ _ (by simp))
      have S4 := Lib.hid (S.out.under hb4)
      have hg4 : w1.heap.size < wr.heap.size := S.out.at_.lt
      have HW4 := Lib.hid hw4
      clear hw4 hb4 S
      obtain ⟨v0, v1, v2⟩ := vec_cells V4.out
      go_upto_region 10 with fail
      rw [HW4.out]
      clear HW4 c0 c1 c2
      go_wp2_with fail
      refine (whole_b _).mono ?_
      rintro e w5 ⟨rfl, hb5⟩
      have V5 := Lib.hid (V4.out.under hb5)
      have S5 := Lib.hid (S4.out.under hb5)
      clear hb5 V4 S4 v0 v1 v2
      obtain ⟨p0, p1, p2, p3⟩ := path_cells S5.out.path
      obtain ⟨d0, d1, d2⟩ := S5.out.legs.cells0
      obtain ⟨v0, v1, v2⟩ := vec_cells V5.out
      go_upto_region 15 with fail
      have S5d : Hid (CkSt w w5.drew g w1.heap.size 0 0 50000) := S5.out.under (Below.refl _ _).drew
      have V5d : Hid (Box w5.drew (wr.heap.size + 1) 87 #[.int .i64 0, .int .i64 30000, .int .i64 40000]) := V5.out
      clear p0 p1 p2 p3 d0 d1 d2 v0 v1 v2
      have hw0 : IntKind.i64.wrap 0 = 0 := by decide
      refine AnyBut.begin (S := fun w' : World => CkSt w w' g w1.heap.size 0 0 50000 ∧ Box w' (wr.heap.size + 1) 87 #[.int .i64 0, .int .i64 30000, .int .i64 40000]) (z := 100) mixed ?_
      have SS : CkSt w w5.drew g w1.heap.size 0 0 50000 ∧ Box w5.drew (wr.heap.size + 1) 87 #[.int .i64 0, .int .i64 30000, .int .i64 40000] := ⟨S5d.out, V5d.out⟩
      refine AnyBut.takeD 0 46 (v := .int .i64 1) rfl rfl (by decide +kernel) (fun _ _ _ h => h) SS (Or.inl ⟨by rfl, fun w' hw' => by (obtain ⟨p0, p1, p2, p3⟩ := path_cells hw'.1.path; obtain ⟨d0, d1, d2⟩ := hw'.1.legs.cells0; obtain ⟨v0, v1, v2⟩ := vec_cells hw'.2; go_simp)⟩) ?_
      simp only [List.setIfInBounds_toArray, List.set_cons_zero, List.set_cons_succ]
      refine AnyBut.takeD 1 47 (v := .bool true) rfl rfl (by decide +kernel) (fun _ _ _ h => h) SS (Or.inl ⟨by rfl, fun w' hw' => by (obtain ⟨p0, p1, p2, p3⟩ := path_cells hw'.1.path; obtain ⟨d0, d1, d2⟩ := hw'.1.legs.cells0; obtain ⟨v0, v1, v2⟩ := vec_cells hw'.2; go_simp)⟩) ?_
      simp only [List.setIfInBounds_toArray, List.set_cons_zero, List.set_cons_succ]
      refine AnyBut.takeD 2 48 (v := .bool true) rfl rfl (by decide +kernel) (fun _ _ _ h => h) SS (Or.inl ⟨by rfl, fun w' hw' => by (obtain ⟨p0, p1, p2, p3⟩ := path_cells hw'.1.path; obtain ⟨d0, d1, d2⟩ := hw'.1.legs.cells0; obtain ⟨v0, v1, v2⟩ := vec_cells hw'.2; go_simp)⟩) ?_
      simp only [List.setIfInBounds_toArray, List.set_cons_zero, List.set_cons_succ]
      refine AnyBut.takeD 3 49 (v := .pointer (some ⟨w.heap.size, 3, none⟩)) rfl rfl (by decide +kernel) (fun _ _ _ h => h) SS (Or.inl ⟨by rfl, fun w' hw' => by (obtain ⟨p0, p1, p2, p3⟩ := path_cells hw'.1.path; obtain ⟨d0, d1, d2⟩ := hw'.1.legs.cells0; obtain ⟨v0, v1, v2⟩ := vec_cells hw'.2; go_simp)⟩) ?_
      simp only [List.setIfInBounds_toArray, List.set_cons_zero, List.set_cons_succ]
      refine AnyBut.takeD 4 50 (v := .slice (some ⟨g, 0, none⟩) 2 2) rfl rfl (by decide +kernel) (fun _ _ _ h => h) SS (Or.inl ⟨by rfl, fun w' hw' => by (obtain ⟨p0, p1, p2, p3⟩ := path_cells hw'.1.path; obtain ⟨d0, d1, d2⟩ := hw'.1.legs.cells0; obtain ⟨v0, v1, v2⟩ := vec_cells hw'.2; go_simp)⟩) ?_
      simp only [List.setIfInBounds_toArray, List.set_cons_zero, List.set_cons_succ]
      refine AnyBut.takeD 5 51 (v := .int .i64 1) rfl rfl (by decide +kernel) (fun _ _ _ h => h) SS (Or.inl ⟨by rfl, fun w' hw' => by (obtain ⟨p0, p1, p2, p3⟩ := path_cells hw'.1.path; obtain ⟨d0, d1, d2⟩ := hw'.1.legs.cells0; obtain ⟨v0, v1, v2⟩ := vec_cells hw'.2; go_simp)⟩) ?_
      simp only [List.setIfInBounds_toArray, List.set_cons_zero, List.set_cons_succ]
      refine AnyBut.takeD 6 52 (v := .int .i64 0) rfl rfl (by decide +kernel) (fun _ _ _ h => h) SS (Or.inl ⟨by rfl, fun w' hw' => by (obtain ⟨p0, p1, p2, p3⟩ := path_cells hw'.1.path; obtain ⟨d0, d1, d2⟩ := hw'.1.legs.cells0; obtain ⟨v0, v1, v2⟩ := vec_cells hw'.2; go_simp)⟩) ?_
      simp only [List.setIfInBounds_toArray, List.set_cons_zero, List.set_cons_succ]
      refine AnyBut.takeD 7 53 (v := .pointer (some ⟨g, 0, none⟩)) rfl rfl (by decide +kernel) (fun _ _ _ h => h) SS (Or.inl ⟨by rfl, fun w' hw' => by (obtain ⟨p0, p1, p2, p3⟩ := path_cells hw'.1.path; obtain ⟨d0, d1, d2⟩ := hw'.1.legs.cells0; obtain ⟨v0, v1, v2⟩ := vec_cells hw'.2; go_simp)⟩) ?_
      simp only [List.setIfInBounds_toArray, List.set_cons_zero, List.set_cons_succ]
      refine AnyBut.takeD 8 54 (v := .agg #[.int .i64 0, .int .i64 0, .int .i64 50000]) rfl rfl (by decide +kernel) (fun _ _ _ h => h) SS (Or.inl ⟨by rfl, fun w' hw' => by (obtain ⟨p0, p1, p2, p3⟩ := path_cells hw'.1.path; obtain ⟨d0, d1, d2⟩ := hw'.1.legs.cells0; obtain ⟨v0, v1, v2⟩ := vec_cells hw'.2; go_simp)⟩) ?_
      simp only [List.setIfInBounds_toArray, List.set_cons_zero, List.set_cons_succ]
      refine AnyBut.takeD 9 55 (v := .agg #[.int .i64 0, .int .i64 30000, .int .i64 40000]) rfl rfl (by decide +kernel) (fun _ _ _ h => h) SS (Or.inl ⟨by rfl, fun w' hw' => by (obtain ⟨p0, p1, p2, p3⟩ := path_cells hw'.1.path; obtain ⟨d0, d1, d2⟩ := hw'.1.legs.cells0; obtain ⟨v0, v1, v2⟩ := vec_cells hw'.2; go_simp)⟩) ?_
      simp only [List.setIfInBounds_toArray, List.set_cons_zero, List.set_cons_succ]
      refine AnyBut.onlyW (i := 10) (by decide +kernel) rfl (by rfl) (fun K hK => ?_)
      go_simp
      refine (dot_ab _).mono ?_
      rintro e w6 ⟨rfl, hb6⟩
      have S6 := Lib.hid (S5d.out.under hb6)
      have V6 := Lib.hid (V5d.out.under hb6)
      have SS := And.intro S6.out V6.out
      refine hK _ _ (fun _ => SS) ?_
      clear hK hb6
      refine AnyBut.takeD 11 57 (v := .bool false) rfl rfl (by decide +kernel) (fun _ _ _ h => h) SS (Or.inl ⟨by rfl, fun w' hw' => by (obtain ⟨p0, p1, p2, p3⟩ := path_cells hw'.1.path; obtain ⟨d0, d1, d2⟩ := hw'.1.legs.cells0; obtain ⟨v0, v1, v2⟩ := vec_cells hw'.2; go_simp)⟩) ?_
      simp only [List.setIfInBounds_toArray, List.set_cons_zero, List.set_cons_succ]
      refine AnyBut.takeD 12 58 (v := .bool false) rfl rfl (by decide +kernel) (fun _ _ _ h => h) SS (Or.inl ⟨by rfl, fun w' hw' => by (obtain ⟨p0, p1, p2, p3⟩ := path_cells hw'.1.path; obtain ⟨d0, d1, d2⟩ := hw'.1.legs.cells0; obtain ⟨v0, v1, v2⟩ := vec_cells hw'.2; go_simp)⟩) ?_
      simp only [List.setIfInBounds_toArray, List.set_cons_zero, List.set_cons_succ]
      refine AnyBut.only (i := 13) (by decide +kernel) rfl rfl (fun K hK => ?_)
      go_simp
      refine hK _ _ (fun _ => SS) ?_
      clear hK SS
      refine AnyBut.done (by decide +kernel) ?_
      clear S5 V5 S5d V5d
      obtain ⟨a0, a1, a2⟩ := vec_cells S6.out.at_
      obtain ⟨v0, v1, v2⟩ := vec_cells V6.out
      go_wp2_with fail
      refine (plus_ab _).mono ?_
      rintro e w7 ⟨rfl, hb7⟩
      have S7 := Lib.hid (S6.out.under hb7)
      clear hb7 V6 S6 a0 a1 a2 v0 v1 v2
      obtain ⟨a0, a1, a2⟩ := vec_cells S7.out.at_
      have f0 := S7.out.at_.frozen 0
      have f1 := S7.out.at_.frozen 1
      have f2 := S7.out.at_.frozen 2
      obtain ⟨w8, hw8⟩ : ∃ w8, ((w7.setCell ⟨w1.heap.size, 0, none⟩ (.int .i64 0)).setCell ⟨w1.heap.size, 1, none⟩ (.int .i64 30000)).setCell ⟨w1.heap.size, 2, none⟩ (.int .i64 90000) = w8 := ⟨_, rfl⟩
      have S8 : Hid (CkSt w w8 g w1.heap.size 0 30000 90000) := by rw [← hw8]; exact S7.out.put hlo _ _ _
      have HW8 := Lib.hid hw8
      clear hw8
      obtain ⟨b0, b1, b2⟩ := vec_cells S8.out.at_
      go_upto_region 18 with fail
      rw [HW8.out]
      clear a0 a1 a2 f0 f1 f2 S7 HW8
      go_wp2_with fail
      refine (valid_ab _).mono ?_
      rintro e w9 ⟨rfl, hb9⟩
      have S9 := Lib.hid (S8.out.under hb9)
      clear hb9 b0 b1 b2 S8
      go_wp2_with fail
      go_roundw
      case rel => exact .inr (.inr ⟨rfl, S9⟩)
      case measure => simp [intOf]
    · go_wp2_with fail
      go_ret
      exact ⟨rfl, S.out.low⟩

end Go.Proofs.Ytnhnheigdlnokaa
