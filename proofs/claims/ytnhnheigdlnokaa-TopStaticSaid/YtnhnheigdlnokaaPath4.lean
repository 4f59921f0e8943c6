/- Walks of the package path, at the path that TopStatic shows awake: the iterator over its parts. -/
import Derived.Test.YtnhnheigdlnokaaPath3
import Derived.Test.YtnhnheigdlnokaaHeld3
namespace Go.Proofs.Ytnhnheigdlnokaa
open Go.RowKit Go.Shelf Mpl
attribute [local go_sem] Oper.semAt_some

theorem path_parts (c0 c1 c2 c3 : Value) (w : World) :
    Calls Try.prog 27 #[.agg #[c0, c1, c2, c3]] w fun e w' => e = .returned (.func (.func 38) #[] #[.pointer (some ⟨w.heap.size, 0, none⟩)]) ∧ w.alloc (.cells #[c0, c1, c2, c3] 72) = w' := by
  go_enter Try.func27, Try.ntmps27
  go_wp2
  go_ret
  exact ⟨rfl, rfl⟩

/-- the cells of part k -/
def partC : Nat → Array Value
  | 0 => #[.int .i64 0, .int .i64 0, .int .i64 0, .int .i64 0, .int .i64 0, .int .i64 0, .int .i64 50000, .int .i64 50000]
  | _ => #[.int .i64 0, .int .i64 0, .int .i64 50000, .int .i64 50000, .int .i64 0, .int .i64 30000, .int .i64 40000, .int .i64 50000]
def partEnc (k : Nat) : Array Value := #[.agg (partC k)]
/-- the path can be read -/
structure PathRead (bj g : Nat) (W : World) : Prop where
  path : Box W bj 72 #[.int .i64 0, .int .i64 0, .int .i64 0, .slice (some ⟨g, 0, none⟩) 2 2]
  legs : PathAt W g
theorem PathRead.calmT {bj g B : Nat} {W W' : World} (h : PathRead bj g W) (hc : CalmT B 89 W W') : PathRead bj g W' := ⟨h.path.calmT hc (by decide), ⟨h.legs.legs.calmT hc (by decide)⟩⟩
theorem PathRead.under {bj g : Nat} {W W' : World} (h : PathRead bj g W) (hb : Below W.heap.size W W') : PathRead bj g W' := ⟨h.path.under hb, h.legs.under hb⟩
theorem PathRead.set {bj g gx i : Nat} {W : World} {cs : Array Value} (h : PathRead bj g W) (hx : Box W gx 89 cs) (u : Value) : PathRead bj g (W.setCell ⟨gx, i, none⟩ u) :=
  ⟨h.path.far (box_ne h.path hx (by decide)) _, ⟨h.legs.legs.far (box_ne h.legs.legs hx (by decide)) _⟩⟩
theorem part_cells {w : World} {g t : Nat} {a b c d e f h i : Value} (H : Box w g t #[a, b, c, d, e, f, h, i]) : w.cell? ⟨g, 0, none⟩ = some a ∧ w.cell? ⟨g, 1, none⟩ = some b ∧ w.cell? ⟨g, 2, none⟩ = some c ∧ w.cell? ⟨g, 3, none⟩ = some d ∧ w.cell? ⟨g, 4, none⟩ = some e ∧ w.cell? ⟨g, 5, none⟩ = some f ∧ w.cell? ⟨g, 6, none⟩ = some h ∧ w.cell? ⟨g, 7, none⟩ = some i := ⟨H.cell 0, H.cell 1, H.cell 2, H.cell 3, H.cell 4, H.cell 5, H.cell 6, H.cell 7⟩
theorem part_free {w : World} {g t : Nat} {cs : Array Value} (H : Box w g t cs) : w.frozen? ⟨g, 0, none⟩ = false ∧ w.frozen? ⟨g, 1, none⟩ = false ∧ w.frozen? ⟨g, 2, none⟩ = false ∧ w.frozen? ⟨g, 3, none⟩ = false ∧ w.frozen? ⟨g, 4, none⟩ = false ∧ w.frozen? ⟨g, 5, none⟩ = false ∧ w.frozen? ⟨g, 6, none⟩ = false ∧ w.frozen? ⟨g, 7, none⟩ = false := ⟨H.frozen 0, H.frozen 1, H.frozen 2, H.frozen 3, H.frozen 4, H.frozen 5, H.frozen 6, H.frozen 7⟩

set_option maxHeartbeats 4000000 in
set_option maxRecDepth 100000 in
theorem parts_iter (n bj g : Nat) (hn1 : 1 ≤ n) :
    Iter3 Fence.wide n Try.prog 38 #[.pointer (some ⟨bj, 0, none⟩)] partEnc 2 (PathRead bj g) 89 := by
  intro L J Jx W hR hJ hY h0
  refine callsIn_of_wp Try.func38 rfl trivial ?_ rfl
  simp only [Try.ntmps38, List.size_toArray, List.length_cons, List.length_nil, Nat.reduceAdd, Nat.reduceSub, Array.replicate_succ, Array.replicate_zero, List.push_toArray, List.append_toArray, List.nil_append, List.cons_append]
  have HY := Lib.hid hY
  have HJ := Lib.hid hJ
  clear hY hJ
  have hbj := hR.path.lt
  have hb0 : Below W.heap.size W (W.alloc (.cells #[.int .i64 0, .int .i64 0, .int .i64 0, .int .i64 0, .int .i64 0, .int .i64 0, .int .i64 0, .int .i64 0] 89)) := (Below.refl _ _).alloc (Nat.le_refl _) _
  have X0 := Lib.hid (Box.new W 89 #[.int .i64 0, .int .i64 0, .int .i64 0, .int .i64 0, .int .i64 0, .int .i64 0, .int .i64 0, .int .i64 0] rfl)
  have R0 := Lib.hid (hR.under hb0)
  have J0 := Lib.hid (HJ.out _ _ _ h0 (Tide.below hb0 (Nat.le_refl _)))
  obtain ⟨q0, q1, q2, q3⟩ := path_cells hR.path
  clear hb0
  gi_wp2
  gi_loopw [12] (fun s12 wr => (s12 = .int .i64 0 ∧ Hid (Box wr W.heap.size 89 #[.int .i64 0, .int .i64 0, .int .i64 0, .int .i64 0, .int .i64 0, .int .i64 0, .int .i64 0, .int .i64 0]) ∧ Hid (PathRead bj g wr) ∧ Hid (J 0 wr)) ∨ (s12 = .int .i64 1 ∧ Hid (Box wr W.heap.size 89 #[.int .i64 0, .int .i64 0, .int .i64 50000, .int .i64 50000, .int .i64 0, .int .i64 0, .int .i64 50000, .int .i64 50000]) ∧ Hid (PathRead bj g wr) ∧ Hid (J 1 wr)) ∨ (s12 = .int .i64 2 ∧ Hid (Box wr W.heap.size 89 #[.int .i64 0, .int .i64 30000, .int .i64 90000, .int .i64 100000, .int .i64 0, .int .i64 30000, .int .i64 40000, .int .i64 50000]) ∧ Hid (PathRead bj g wr) ∧ Hid (J 2 wr))) (fun s12 _ => 2 - (intOf s12).toNat)
  case atStart => exact .inl ⟨rfl, X0, R0, J0⟩
  case round =>
    clear q0 q1 q2 q3 X0 R0 J0 hR h0 hbj
    rcases hrel with ⟨rfl, X, R, J1⟩ | ⟨rfl, X, R, J1⟩ | ⟨rfl, X, R, J1⟩
    · skip
      obtain ⟨c0, c1, c2⟩ := R.out.legs.cells0
      obtain ⟨x0, x1, x2, x3, x4, x5, x6, x7⟩ := part_cells X.out
      obtain ⟨f0, f1, f2, f3, f4, f5, f6, f7⟩ := part_free X.out
      have hxl := X.out.lt
      have hfw : Fence.wide.fn 35 := trivial
      obtain ⟨w2, hw2⟩ : ∃ w2, (((wr.setCell ⟨W.heap.size, 4, none⟩ (.int .i64 0)).setCell ⟨W.heap.size, 5, none⟩ (.int .i64 0)).setCell ⟨W.heap.size, 6, none⟩ (.int .i64 50000)).alloc (.cells #[.int .i64 0, .int .i64 0, .int .i64 50000] 69) = w2 := ⟨_, rfl⟩
      have X2 : Hid (Box w2 W.heap.size 89 #[.int .i64 0, .int .i64 0, .int .i64 0, .int .i64 0, .int .i64 0, .int .i64 0, .int .i64 50000, .int .i64 0]) := by rw [← hw2]; unfold Hid; simpa using (((X.out.set_ 4 (.int .i64 0)).set_ 5 (.int .i64 0)).set_ 6 (.int .i64 50000)).alloc (.cells #[.int .i64 0, .int .i64 0, .int .i64 50000] 69)
      have T2 : Tide W.heap.size 89 wr w2 := by rw [← hw2]; exact (((Tide.set X.out (Nat.le_refl _) 4 _).trans (Tide.set (X.out.set_ 4 _) (Nat.le_refl _) 5 _)).trans (Tide.set ((X.out.set_ 4 _).set_ 5 _) (Nat.le_refl _) 6 _)).trans (Tide.below ((Below.refl _ _).alloc (Nat.le_refl _) _) (by simp; omega))
      have J2 := Lib.hid (HJ.out _ _ _ J1.out T2)
      have R2 := Lib.hid (R.out.calmT (T2.calm (Nat.le_refl _)))
      have HW2 := Lib.hid hw2
      clear hw2 T2
      obtain ⟨y0, y1, y2, y3, y4, y5, y6, y7⟩ := part_cells X2.out
      gi_wp2_with (rw [HW2.out])
      refine (callsIn_wide.2 (whole_a _)).mono ?_
      rintro e w3 ⟨rfl, hb3⟩
      have X3 := Lib.hid (X2.out.under hb3)
      have T3 : Tide W.heap.size 89 w2 w3 := Tide.below hb3 (Nat.le_of_lt X2.out.lt)
      have J3 := Lib.hid (HJ.out _ _ _ J2.out T3)
      have R3 := Lib.hid (R2.out.under hb3)
      clear c0 c1 c2 x0 x1 x2 x3 x4 x5 x6 x7 f0 f1 f2 f3 f4 f5 f6 f7 y0 y1 y2 y3 y4 y5 y6 y7 hb3 T3 X2 J2 R2 HW2 X J1 R
      obtain ⟨y0, y1, y2, y3, y4, y5, y6, y7⟩ := part_cells X3.out
      obtain ⟨f0, f1, f2, f3, f4, f5, f6, f7⟩ := part_free X3.out
      obtain ⟨w4, hw4⟩ : ∃ w4, w3.setCell ⟨W.heap.size, 7, none⟩ (.int .i64 50000) = w4 := ⟨_, rfl⟩
      have X4 : Hid (Box w4 W.heap.size 89 #[.int .i64 0, .int .i64 0, .int .i64 0, .int .i64 0, .int .i64 0, .int .i64 0, .int .i64 50000, .int .i64 50000]) := by rw [← hw4]; unfold Hid; simpa using X3.out.set_ 7 (.int .i64 50000)
      have T4 : Tide W.heap.size 89 w3 w4 := by rw [← hw4]; exact Tide.set X3.out (Nat.le_refl _) 7 _
      have J4 := Lib.hid (HJ.out _ _ _ J3.out T4)
      have R4 := Lib.hid (R3.out.calmT (T4.calm (Nat.le_refl _)))
      have HW4 := Lib.hid hw4
      clear hw4 T4 J3 R3
      obtain ⟨fn, tmps, assign, body, hy, hRd⟩ := HY.out 0 w4 (by omega) J4.out R4.out
      simp only [partEnc, partC] at hy
      have HRd := Lib.hid hRd
      clear hRd
      obtain ⟨z0, z1, z2, z3, z4, z5, z6, z7⟩ := part_cells X4.out
      gi_wp2_with (rw [HW4.out])
      refine HRd.out.mono ?_
      rintro e W3 (⟨rfl, hJ3, hR3, hf3⟩ | ⟨rfl, hJx3⟩)
      · have HJ3 := Lib.hid hJ3
        have HR3 := Lib.hid hR3
        have X5 := Lib.hid (X4.out.firm hf3)
        clear hJ3 hR3 hf3 y0 y1 y2 y3 y4 y5 y6 y7 f0 f1 f2 f3 f4 f5 f6 f7 z0 z1 z2 z3 z4 z5 z6 z7 hy HRd HW4 X4 J4 R4 X3
        gi_wp2
        refine wpIn_wide.2 ?_
        have X6 : Hid (Box W3.drew W.heap.size 89 #[.int .i64 0, .int .i64 0, .int .i64 0, .int .i64 0, .int .i64 0, .int .i64 0, .int .i64 50000, .int .i64 50000]) := X5.out
        have SS := X6.out
        refine AnyMid.begin (q := 11) (S := (fun (f : Bool) (w' : World) => f = false → Box w' W.heap.size 89 #[.int .i64 0, .int .i64 0, .int .i64 0, .int .i64 0, .int .i64 0, .int .i64 0, .int .i64 50000, .int .i64 50000])) (Z := fun i => i == 13) mixed ?_
        have hw5 : IntKind.i64.wrap 50000 = 50000 := by decide
        refine AnyMid.take (fun w' : World => Box w' W.heap.size 89 #[.int .i64 0, .int .i64 0, .int .i64 0, .int .i64 0, .int .i64 0, .int .i64 0, .int .i64 50000, .int .i64 50000]) (i := 0) (v := .pointer (some ⟨W.heap.size, 0, none⟩)) [13] 6 (by simp) (fun _ h => h rfl) (.inl (by decide +kernel)) (fun _ => SS) rfl (by decide +kernel) (fun _ _ _ h => h) (Or.inl ⟨by simp [Region.wanted], fun w' hw' => by (obtain ⟨z0, z1, z2, z3, z4, z5, z6, z7⟩ := part_cells hw'; go_simp)⟩) ?_
        refine AnyMid.take (fun w' : World => Box w' W.heap.size 89 #[.int .i64 0, .int .i64 0, .int .i64 0, .int .i64 0, .int .i64 0, .int .i64 0, .int .i64 50000, .int .i64 50000]) (i := 1) (v := .agg #[.int .i64 0, .int .i64 0, .int .i64 0]) [13] 6 (by simp) (fun _ h => h rfl) (.inl (by decide +kernel)) (fun _ => SS) rfl (by decide +kernel) (fun _ _ _ h => h) (Or.inl ⟨by simp [Region.wanted], fun w' hw' => by (obtain ⟨z0, z1, z2, z3, z4, z5, z6, z7⟩ := part_cells hw'; go_simp)⟩) ?_
        refine AnyMid.take (fun w' : World => Box w' W.heap.size 89 #[.int .i64 0, .int .i64 0, .int .i64 0, .int .i64 0, .int .i64 0, .int .i64 0, .int .i64 50000, .int .i64 50000]) (i := 2) (v := .pointer (some ⟨W.heap.size, 4, none⟩)) [13] 6 (by simp) (fun _ h => h rfl) (.inl (by decide +kernel)) (fun _ => SS) rfl (by decide +kernel) (fun _ _ _ h => h) (Or.inl ⟨by simp [Region.wanted], fun w' hw' => by (obtain ⟨z0, z1, z2, z3, z4, z5, z6, z7⟩ := part_cells hw'; go_simp)⟩) ?_
        refine AnyMid.take (fun w' : World => Box w' W.heap.size 89 #[.int .i64 0, .int .i64 0, .int .i64 0, .int .i64 0, .int .i64 0, .int .i64 0, .int .i64 50000, .int .i64 50000]) (i := 3) (v := .agg #[.int .i64 0, .int .i64 0, .int .i64 50000]) [13] 6 (by simp) (fun _ h => h rfl) (.inl (by decide +kernel)) (fun _ => SS) rfl (by decide +kernel) (fun _ _ _ h => h) (Or.inl ⟨by simp [Region.wanted], fun w' hw' => by (obtain ⟨z0, z1, z2, z3, z4, z5, z6, z7⟩ := part_cells hw'; go_simp)⟩) ?_
        refine AnyMid.take (fun w' : World => Box w' W.heap.size 89 #[.int .i64 0, .int .i64 0, .int .i64 0, .int .i64 0, .int .i64 0, .int .i64 0, .int .i64 50000, .int .i64 50000]) (i := 5) (v := .pointer (some ⟨W.heap.size, 3, none⟩)) [13] 6 (by simp) (fun _ h => h rfl) (.inl (by decide +kernel)) (fun _ => SS) rfl (by decide +kernel) (fun _ _ _ h => h) (Or.inl ⟨by simp [Region.wanted], fun w' hw' => by (obtain ⟨z0, z1, z2, z3, z4, z5, z6, z7⟩ := part_cells hw'; go_simp)⟩) ?_
        refine AnyMid.take (fun w' : World => Box w' W.heap.size 89 #[.int .i64 0, .int .i64 0, .int .i64 0, .int .i64 0, .int .i64 0, .int .i64 0, .int .i64 50000, .int .i64 50000]) (i := 6) (v := .int .i64 0) [13] 6 (by simp) (fun _ h => h rfl) (.inl (by decide +kernel)) (fun _ => SS) rfl (by decide +kernel) (fun _ _ _ h => h) (Or.inl ⟨by simp [Region.wanted], fun w' hw' => by (obtain ⟨z0, z1, z2, z3, z4, z5, z6, z7⟩ := part_cells hw'; go_simp)⟩) ?_
        refine AnyMid.take (fun w' : World => Box w' W.heap.size 89 #[.int .i64 0, .int .i64 0, .int .i64 0, .int .i64 0, .int .i64 0, .int .i64 0, .int .i64 50000, .int .i64 50000]) (i := 7) (v := .pointer (some ⟨W.heap.size, 7, none⟩)) [13] 6 (by simp) (fun _ h => h rfl) (.inl (by decide +kernel)) (fun _ => SS) rfl (by decide +kernel) (fun _ _ _ h => h) (Or.inl ⟨by simp [Region.wanted], fun w' hw' => by (obtain ⟨z0, z1, z2, z3, z4, z5, z6, z7⟩ := part_cells hw'; go_simp)⟩) ?_
        refine AnyMid.take (fun w' : World => Box w' W.heap.size 89 #[.int .i64 0, .int .i64 0, .int .i64 0, .int .i64 0, .int .i64 0, .int .i64 0, .int .i64 50000, .int .i64 50000]) (i := 8) (v := .int .i64 50000) [13] 6 (by simp) (fun _ h => h rfl) (.inl (by decide +kernel)) (fun _ => SS) rfl (by decide +kernel) (fun _ _ _ h => h) (Or.inl ⟨by simp [Region.wanted], fun w' hw' => by (obtain ⟨z0, z1, z2, z3, z4, z5, z6, z7⟩ := part_cells hw'; go_simp)⟩) ?_
        refine AnyMid.take (fun _ => True) (i := 9) (v := .int .i64 50000) [13] 6 (by simp) (fun _ _ => trivial) (.inr fun _ _ => trivial) (fun _ => SS) rfl (by decide +kernel) (fun _ _ _ h => h) (Or.inl ⟨by simp [Region.wanted], fun w' _ => by go_simp⟩) ?_
        refine AnyMid.only (i := 4) (by decide +kernel) rfl rfl (fun K hK => ?_)
        go_simp
        refine (plus_za _).mono ?_
        rintro e w6 ⟨rfl, hb6⟩
        have X7 := Lib.hid (X6.out.under hb6)
        have HJ6 := Lib.hid (HJ.out _ _ _ HJ3.out (Tide.below ((Below.refl _ W3).drew.trans hb6) (Nat.le_of_lt X5.out.lt)))
        have HR6 := Lib.hid (HR3.out.under ((Below.refl _ W3).drew.trans hb6))
        refine hK _ _ (fun _ _ => X7.out) ?_
        clear hK hb6
        obtain ⟨z0, z1, z2, z3, z4, z5, z6, z7⟩ := part_cells X7.out
        obtain ⟨f0, f1, f2, f3, f4, f5, f6, f7⟩ := part_free X7.out
        refine AnyMid.only (i := 10) (by decide +kernel) rfl rfl (fun K hK => ?_)
        go_simp
        refine hK _ _ (fun _ _ => X7.out) ?_
        clear hK
        refine AnyMid.only (i := 11) (by decide +kernel) rfl rfl (fun K hK => ?_)
        go_simp
        refine hK _ _ (fun _ h => (by cases h)) ?_
        clear hK
        refine AnyMid.only (i := 12) (by decide +kernel) rfl rfl (fun K hK => ?_)
        go_simp
        refine hK _ _ (fun _ h => (by cases h)) ?_
        clear hK
        refine AnyMid.only (i := 13) (by decide +kernel) rfl rfl (fun K hK => ?_)
        go_simp
        refine hK _ _ (fun h => (by cases h)) ?_
        clear hK
        refine AnyMid.done (by decide +kernel) ?_
        have X8 : Box ((((w6.setCell ⟨W.heap.size, 0, none⟩ (.int .i64 0)).setCell ⟨W.heap.size, 1, none⟩ (.int .i64 0)).setCell ⟨W.heap.size, 2, none⟩ (.int .i64 50000)).setCell ⟨W.heap.size, 3, none⟩ (.int .i64 50000)) W.heap.size 89 #[.int .i64 0, .int .i64 0, .int .i64 50000, .int .i64 50000, .int .i64 0, .int .i64 0, .int .i64 50000, .int .i64 50000] := by simpa using (((X7.out.set_ 0 (.int .i64 0)).set_ 1 (.int .i64 0)).set_ 2 (.int .i64 50000)).set_ 3 (.int .i64 50000)
        have T8 : Tide W.heap.size 89 w6 ((((w6.setCell ⟨W.heap.size, 0, none⟩ (.int .i64 0)).setCell ⟨W.heap.size, 1, none⟩ (.int .i64 0)).setCell ⟨W.heap.size, 2, none⟩ (.int .i64 50000)).setCell ⟨W.heap.size, 3, none⟩ (.int .i64 50000)) := (((Tide.set X7.out (Nat.le_refl _) 0 _).trans (Tide.set (X7.out.set_ 0 _) (Nat.le_refl _) 1 _)).trans (Tide.set ((X7.out.set_ 0 _).set_ 1 _) (Nat.le_refl _) 2 _)).trans (Tide.set (((X7.out.set_ 0 _).set_ 1 _).set_ 2 _) (Nat.le_refl _) 3 _)
        have X9 := Lib.hid X8
        have J9 := Lib.hid (HJ.out _ _ _ HJ6.out T8)
        have R9 := Lib.hid (HR6.out.calmT (T8.calm (Nat.le_refl _)))
        clear X8 T8 z0 z1 z2 z3 z4 z5 z6 z7 f0 f1 f2 f3 f4 f5 f6 f7
        gi_wp2
        go_roundw
        case rel => exact .inr (.inl ⟨rfl, X9, R9, J9⟩)
        case measure => simp [intOf]
      · have HJ3 := Lib.hid hJx3
        clear hJx3
        gi_wp2
        refine bodyPost_ret (results_none rfl _ _ _) rfl ?_
        exact ⟨⟨_, rfl⟩, .inr ⟨0, by omega, HJ3.out⟩⟩
    · skip
      obtain ⟨c0, c1, c2⟩ := R.out.legs.cells1
      obtain ⟨x0, x1, x2, x3, x4, x5, x6, x7⟩ := part_cells X.out
      obtain ⟨f0, f1, f2, f3, f4, f5, f6, f7⟩ := part_free X.out
      have hxl := X.out.lt
      have hfw : Fence.wide.fn 35 := trivial
      obtain ⟨w2, hw2⟩ : ∃ w2, (((wr.setCell ⟨W.heap.size, 4, none⟩ (.int .i64 0)).setCell ⟨W.heap.size, 5, none⟩ (.int .i64 30000)).setCell ⟨W.heap.size, 6, none⟩ (.int .i64 40000)).alloc (.cells #[.int .i64 0, .int .i64 30000, .int .i64 40000] 69) = w2 := ⟨_, rfl⟩
      have X2 : Hid (Box w2 W.heap.size 89 #[.int .i64 0, .int .i64 0, .int .i64 50000, .int .i64 50000, .int .i64 0, .int .i64 30000, .int .i64 40000, .int .i64 50000]) := by rw [← hw2]; unfold Hid; simpa using (((X.out.set_ 4 (.int .i64 0)).set_ 5 (.int .i64 30000)).set_ 6 (.int .i64 40000)).alloc (.cells #[.int .i64 0, .int .i64 30000, .int .i64 40000] 69)
      have T2 : Tide W.heap.size 89 wr w2 := by rw [← hw2]; exact (((Tide.set X.out (Nat.le_refl _) 4 _).trans (Tide.set (X.out.set_ 4 _) (Nat.le_refl _) 5 _)).trans (Tide.set ((X.out.set_ 4 _).set_ 5 _) (Nat.le_refl _) 6 _)).trans (Tide.below ((Below.refl _ _).alloc (Nat.le_refl _) _) (by simp; omega))
      have J2 := Lib.hid (HJ.out _ _ _ J1.out T2)
      have R2 := Lib.hid (R.out.calmT (T2.calm (Nat.le_refl _)))
      have HW2 := Lib.hid hw2
      clear hw2 T2
      obtain ⟨y0, y1, y2, y3, y4, y5, y6, y7⟩ := part_cells X2.out
      gi_wp2_with (rw [HW2.out])
      refine (callsIn_wide.2 (whole_b _)).mono ?_
      rintro e w3 ⟨rfl, hb3⟩
      have X3 := Lib.hid (X2.out.under hb3)
      have T3 : Tide W.heap.size 89 w2 w3 := Tide.below hb3 (Nat.le_of_lt X2.out.lt)
      have J3 := Lib.hid (HJ.out _ _ _ J2.out T3)
      have R3 := Lib.hid (R2.out.under hb3)
      clear c0 c1 c2 x0 x1 x2 x3 x4 x5 x6 x7 f0 f1 f2 f3 f4 f5 f6 f7 y0 y1 y2 y3 y4 y5 y6 y7 hb3 T3 X2 J2 R2 HW2 X J1 R
      obtain ⟨y0, y1, y2, y3, y4, y5, y6, y7⟩ := part_cells X3.out
      obtain ⟨f0, f1, f2, f3, f4, f5, f6, f7⟩ := part_free X3.out
      obtain ⟨w4, hw4⟩ : ∃ w4, w3.setCell ⟨W.heap.size, 7, none⟩ (.int .i64 50000) = w4 := ⟨_, rfl⟩
      have X4 : Hid (Box w4 W.heap.size 89 #[.int .i64 0, .int .i64 0, .int .i64 50000, .int .i64 50000, .int .i64 0, .int .i64 30000, .int .i64 40000, .int .i64 50000]) := by rw [← hw4]; unfold Hid; simpa using X3.out.set_ 7 (.int .i64 50000)
      have T4 : Tide W.heap.size 89 w3 w4 := by rw [← hw4]; exact Tide.set X3.out (Nat.le_refl _) 7 _
      have J4 := Lib.hid (HJ.out _ _ _ J3.out T4)
      have R4 := Lib.hid (R3.out.calmT (T4.calm (Nat.le_refl _)))
      have HW4 := Lib.hid hw4
      clear hw4 T4 J3 R3
      obtain ⟨fn, tmps, assign, body, hy, hRd⟩ := HY.out 1 w4 (by omega) J4.out R4.out
      simp only [partEnc, partC] at hy
      have HRd := Lib.hid hRd
      clear hRd
      obtain ⟨z0, z1, z2, z3, z4, z5, z6, z7⟩ := part_cells X4.out
      gi_wp2_with (rw [HW4.out])
      refine HRd.out.mono ?_
      rintro e W3 (⟨rfl, hJ3, hR3, hf3⟩ | ⟨rfl, hJx3⟩)
      · have HJ3 := Lib.hid hJ3
        have HR3 := Lib.hid hR3
        have X5 := Lib.hid (X4.out.firm hf3)
        clear hJ3 hR3 hf3 y0 y1 y2 y3 y4 y5 y6 y7 f0 f1 f2 f3 f4 f5 f6 f7 z0 z1 z2 z3 z4 z5 z6 z7 hy HRd HW4 X4 J4 R4 X3
        gi_wp2
        refine wpIn_wide.2 ?_
        have X6 : Hid (Box W3.drew W.heap.size 89 #[.int .i64 0, .int .i64 0, .int .i64 50000, .int .i64 50000, .int .i64 0, .int .i64 30000, .int .i64 40000, .int .i64 50000]) := X5.out
        have SS := X6.out
        refine AnyMid.begin (q := 11) (S := (fun (f : Bool) (w' : World) => f = false → Box w' W.heap.size 89 #[.int .i64 0, .int .i64 0, .int .i64 50000, .int .i64 50000, .int .i64 0, .int .i64 30000, .int .i64 40000, .int .i64 50000])) (Z := fun i => i == 13) mixed ?_
        have hw5 : IntKind.i64.wrap 100000 = 100000 := by decide
        refine AnyMid.take (fun w' : World => Box w' W.heap.size 89 #[.int .i64 0, .int .i64 0, .int .i64 50000, .int .i64 50000, .int .i64 0, .int .i64 30000, .int .i64 40000, .int .i64 50000]) (i := 0) (v := .pointer (some ⟨W.heap.size, 0, none⟩)) [13] 6 (by simp) (fun _ h => h rfl) (.inl (by decide +kernel)) (fun _ => SS) rfl (by decide +kernel) (fun _ _ _ h => h) (Or.inl ⟨by simp [Region.wanted], fun w' hw' => by (obtain ⟨z0, z1, z2, z3, z4, z5, z6, z7⟩ := part_cells hw'; go_simp)⟩) ?_
        refine AnyMid.take (fun w' : World => Box w' W.heap.size 89 #[.int .i64 0, .int .i64 0, .int .i64 50000, .int .i64 50000, .int .i64 0, .int .i64 30000, .int .i64 40000, .int .i64 50000]) (i := 1) (v := .agg #[.int .i64 0, .int .i64 0, .int .i64 50000]) [13] 6 (by simp) (fun _ h => h rfl) (.inl (by decide +kernel)) (fun _ => SS) rfl (by decide +kernel) (fun _ _ _ h => h) (Or.inl ⟨by simp [Region.wanted], fun w' hw' => by (obtain ⟨z0, z1, z2, z3, z4, z5, z6, z7⟩ := part_cells hw'; go_simp)⟩) ?_
        refine AnyMid.take (fun w' : World => Box w' W.heap.size 89 #[.int .i64 0, .int .i64 0, .int .i64 50000, .int .i64 50000, .int .i64 0, .int .i64 30000, .int .i64 40000, .int .i64 50000]) (i := 2) (v := .pointer (some ⟨W.heap.size, 4, none⟩)) [13] 6 (by simp) (fun _ h => h rfl) (.inl (by decide +kernel)) (fun _ => SS) rfl (by decide +kernel) (fun _ _ _ h => h) (Or.inl ⟨by simp [Region.wanted], fun w' hw' => by (obtain ⟨z0, z1, z2, z3, z4, z5, z6, z7⟩ := part_cells hw'; go_simp)⟩) ?_
        refine AnyMid.take (fun w' : World => Box w' W.heap.size 89 #[.int .i64 0, .int .i64 0, .int .i64 50000, .int .i64 50000, .int .i64 0, .int .i64 30000, .int .i64 40000, .int .i64 50000]) (i := 3) (v := .agg #[.int .i64 0, .int .i64 30000, .int .i64 40000]) [13] 6 (by simp) (fun _ h => h rfl) (.inl (by decide +kernel)) (fun _ => SS) rfl (by decide +kernel) (fun _ _ _ h => h) (Or.inl ⟨by simp [Region.wanted], fun w' hw' => by (obtain ⟨z0, z1, z2, z3, z4, z5, z6, z7⟩ := part_cells hw'; go_simp)⟩) ?_
        refine AnyMid.take (fun w' : World => Box w' W.heap.size 89 #[.int .i64 0, .int .i64 0, .int .i64 50000, .int .i64 50000, .int .i64 0, .int .i64 30000, .int .i64 40000, .int .i64 50000]) (i := 5) (v := .pointer (some ⟨W.heap.size, 3, none⟩)) [13] 6 (by simp) (fun _ h => h rfl) (.inl (by decide +kernel)) (fun _ => SS) rfl (by decide +kernel) (fun _ _ _ h => h) (Or.inl ⟨by simp [Region.wanted], fun w' hw' => by (obtain ⟨z0, z1, z2, z3, z4, z5, z6, z7⟩ := part_cells hw'; go_simp)⟩) ?_
        refine AnyMid.take (fun w' : World => Box w' W.heap.size 89 #[.int .i64 0, .int .i64 0, .int .i64 50000, .int .i64 50000, .int .i64 0, .int .i64 30000, .int .i64 40000, .int .i64 50000]) (i := 6) (v := .int .i64 50000) [13] 6 (by simp) (fun _ h => h rfl) (.inl (by decide +kernel)) (fun _ => SS) rfl (by decide +kernel) (fun _ _ _ h => h) (Or.inl ⟨by simp [Region.wanted], fun w' hw' => by (obtain ⟨z0, z1, z2, z3, z4, z5, z6, z7⟩ := part_cells hw'; go_simp)⟩) ?_
        refine AnyMid.take (fun w' : World => Box w' W.heap.size 89 #[.int .i64 0, .int .i64 0, .int .i64 50000, .int .i64 50000, .int .i64 0, .int .i64 30000, .int .i64 40000, .int .i64 50000]) (i := 7) (v := .pointer (some ⟨W.heap.size, 7, none⟩)) [13] 6 (by simp) (fun _ h => h rfl) (.inl (by decide +kernel)) (fun _ => SS) rfl (by decide +kernel) (fun _ _ _ h => h) (Or.inl ⟨by simp [Region.wanted], fun w' hw' => by (obtain ⟨z0, z1, z2, z3, z4, z5, z6, z7⟩ := part_cells hw'; go_simp)⟩) ?_
        refine AnyMid.take (fun w' : World => Box w' W.heap.size 89 #[.int .i64 0, .int .i64 0, .int .i64 50000, .int .i64 50000, .int .i64 0, .int .i64 30000, .int .i64 40000, .int .i64 50000]) (i := 8) (v := .int .i64 50000) [13] 6 (by simp) (fun _ h => h rfl) (.inl (by decide +kernel)) (fun _ => SS) rfl (by decide +kernel) (fun _ _ _ h => h) (Or.inl ⟨by simp [Region.wanted], fun w' hw' => by (obtain ⟨z0, z1, z2, z3, z4, z5, z6, z7⟩ := part_cells hw'; go_simp)⟩) ?_
        refine AnyMid.take (fun _ => True) (i := 9) (v := .int .i64 100000) [13] 6 (by simp) (fun _ _ => trivial) (.inr fun _ _ => trivial) (fun _ => SS) rfl (by decide +kernel) (fun _ _ _ h => h) (Or.inl ⟨by simp [Region.wanted], fun w' _ => by go_simp⟩) ?_
        refine AnyMid.only (i := 4) (by decide +kernel) rfl rfl (fun K hK => ?_)
        go_simp
        refine (plus_ab _).mono ?_
        rintro e w6 ⟨rfl, hb6⟩
        have X7 := Lib.hid (X6.out.under hb6)
        have HJ6 := Lib.hid (HJ.out _ _ _ HJ3.out (Tide.below ((Below.refl _ W3).drew.trans hb6) (Nat.le_of_lt X5.out.lt)))
        have HR6 := Lib.hid (HR3.out.under ((Below.refl _ W3).drew.trans hb6))
        refine hK _ _ (fun _ _ => X7.out) ?_
        clear hK hb6
        obtain ⟨z0, z1, z2, z3, z4, z5, z6, z7⟩ := part_cells X7.out
        obtain ⟨f0, f1, f2, f3, f4, f5, f6, f7⟩ := part_free X7.out
        refine AnyMid.only (i := 10) (by decide +kernel) rfl rfl (fun K hK => ?_)
        go_simp
        refine hK _ _ (fun _ _ => X7.out) ?_
        clear hK
        refine AnyMid.only (i := 11) (by decide +kernel) rfl rfl (fun K hK => ?_)
        go_simp
        refine hK _ _ (fun _ h => (by cases h)) ?_
        clear hK
        refine AnyMid.only (i := 12) (by decide +kernel) rfl rfl (fun K hK => ?_)
        go_simp
        refine hK _ _ (fun _ h => (by cases h)) ?_
        clear hK
        refine AnyMid.only (i := 13) (by decide +kernel) rfl rfl (fun K hK => ?_)
        go_simp
        refine hK _ _ (fun h => (by cases h)) ?_
        clear hK
        refine AnyMid.done (by decide +kernel) ?_
        have X8 : Box ((((w6.setCell ⟨W.heap.size, 0, none⟩ (.int .i64 0)).setCell ⟨W.heap.size, 1, none⟩ (.int .i64 30000)).setCell ⟨W.heap.size, 2, none⟩ (.int .i64 90000)).setCell ⟨W.heap.size, 3, none⟩ (.int .i64 100000)) W.heap.size 89 #[.int .i64 0, .int .i64 30000, .int .i64 90000, .int .i64 100000, .int .i64 0, .int .i64 30000, .int .i64 40000, .int .i64 50000] := by simpa using (((X7.out.set_ 0 (.int .i64 0)).set_ 1 (.int .i64 30000)).set_ 2 (.int .i64 90000)).set_ 3 (.int .i64 100000)
        have T8 : Tide W.heap.size 89 w6 ((((w6.setCell ⟨W.heap.size, 0, none⟩ (.int .i64 0)).setCell ⟨W.heap.size, 1, none⟩ (.int .i64 30000)).setCell ⟨W.heap.size, 2, none⟩ (.int .i64 90000)).setCell ⟨W.heap.size, 3, none⟩ (.int .i64 100000)) := (((Tide.set X7.out (Nat.le_refl _) 0 _).trans (Tide.set (X7.out.set_ 0 _) (Nat.le_refl _) 1 _)).trans (Tide.set ((X7.out.set_ 0 _).set_ 1 _) (Nat.le_refl _) 2 _)).trans (Tide.set (((X7.out.set_ 0 _).set_ 1 _).set_ 2 _) (Nat.le_refl _) 3 _)
        have X9 := Lib.hid X8
        have J9 := Lib.hid (HJ.out _ _ _ HJ6.out T8)
        have R9 := Lib.hid (HR6.out.calmT (T8.calm (Nat.le_refl _)))
        clear X8 T8 z0 z1 z2 z3 z4 z5 z6 z7 f0 f1 f2 f3 f4 f5 f6 f7
        gi_wp2
        go_roundw
        case rel => exact .inr (.inr ⟨rfl, X9, R9, J9⟩)
        case measure => simp [intOf]
      · have HJ3 := Lib.hid hJx3
        clear hJx3
        gi_wp2
        refine bodyPost_ret (results_none rfl _ _ _) rfl ?_
        exact ⟨⟨_, rfl⟩, .inr ⟨1, by omega, HJ3.out⟩⟩
    · gi_wp2
      go_end0
      exact ⟨⟨_, rfl⟩, .inl J1.out⟩

theorem enters_parts1 : ∀ args w, (callFunc 38 args).run Try.prog w = .ok (.enter 38 args) w := enters_of Try.func38 (by kernel_rfl) rfl

end Go.Proofs.Ytnhnheigdlnokaa
