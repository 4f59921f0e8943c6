/- Walks of the package house: the static pressure of a phase with one fluid. (Printed by gen_top.py.) -/
import Derived.Test.YtnhnheigdlnokaaFBase
import Derived.Test.YtnhnheigdlnokaaPath
import Derived.Deep.DeepCutAuto
import Derived.Deep.WholeRow
namespace Go.Proofs.Ytnhnheigdlnokaa
open Go.RowKit Go.Shelf Mpl

theorem house_within (n lo hi : Int) (w : World) :
    Calls Try.prog 18 #[.int .i64 n, .int .i64 lo, .int .i64 hi] w fun e w' => e = .returned (.bool (within n lo hi)) ∧ w = w' := by
  unfold within
  by_cases h1 : lo ≤ n
  · by_cases h2 : n ≤ hi
    · go_enter Try.func18, Try.ntmps18
      go_wp2
      go_ret
      simp [h1, h2]
    · go_enter Try.func18, Try.ntmps18
      go_wp2
      go_ret
      simp [h2]
  · go_enter Try.func18, Try.ntmps18
    go_wp2
    go_ret
    simp
    omega

theorem house_in (n lo hi : Int) (w : World) (h0 : lo ≤ n) (h1 : n ≤ hi) :
    Calls Try.prog 18 #[.int .i64 n, .int .i64 lo, .int .i64 hi] w fun e w' => e = .returned (.bool true) ∧ w = w' := by
  have := house_within n lo hi w
  rw [show within n lo hi = true by simp [within]; omega] at this
  exact this

set_option maxHeartbeats 4000000 in
set_option maxRecDepth 100000 in
theorem house_fluids (tt wt top : Int) (w : World) (h0 : 1 ≤ tt) (h1 : tt ≤ 1048576) (h2 : 0 ≤ wt) (h3 : wt ≤ 40000) (h4 : 0 ≤ top) (h5 : top ≤ 68719476736) :
    Calls Try.prog 17 #[.agg (List.toArray (Value.int .i64 0 :: Value.int .i64 0 :: Value.int .i64 0 :: Value.int .i64 tt :: Value.int .i64 0 :: Value.int .i64 0 :: Value.int .i64 wt :: Value.int .i64 top :: Value.int .i64 0 :: Value.int .i64 0 :: Value.int .i64 0 :: Value.int .i64 0 :: Value.int .i64 0 :: Value.int .i64 0 :: Value.slice none 0 0 :: Value.slice none 0 0 :: Value.slice none 0 0 :: Value.int .i64 0 :: Value.int .i64 0 :: Value.slice none 0 0 :: Value.slice none 0 0 :: Value.slice none 0 0 :: Value.int .i64 0 :: Value.int .i64 0 :: Value.int .i64 0 :: Value.int .i64 0 :: Value.int .i64 0 :: Value.slice none 0 0 :: Value.int .i64 0 :: Value.slice none 0 0 :: Value.int .i64 0 :: Value.int .i64 0 :: Value.int .i64 0 :: Value.int .i64 0 :: Value.int .i64 0 :: Value.int .i64 0 :: Value.int .i64 0 :: Value.slice none 0 0 :: Value.slice none 0 0 :: []))] w fun e w' => e = .returned (.bool true) ∧ Below w.heap.size w w' := by
  go_enter Try.func17, Try.ntmps17
  go_wp2_with (go_at_call 18; refine (house_in _ _ _ _ (by omega) (by omega)).mono ?_; rintro e w' ⟨rfl, rfl⟩)
  go_ret
  exact ⟨rfl, (by repeat (first | exact Below.refl _ _ | assumption | refine Below.setCell ?_ (by first | (simp; done) | (simp; omega)) _ | refine belowDrewN ?_ _ | refine Below.drew ?_ | refine Below.alloc ?_ (by first | (simp; done) | (simp; omega)) _))⟩

set_option maxHeartbeats 4000000 in
set_option maxRecDepth 100000 in
theorem house_Static (tt wt top z : Int) (w : World) (h0 : 1 ≤ tt) (h1 : tt ≤ 100000) (h2 : 0 ≤ wt) (h3 : wt ≤ 40000) (h4 : 0 ≤ top) (h5 : top ≤ 68719476736) (h6 : 0 ≤ z) (h7 : z ≤ tt) :
    Calls Try.prog 7 #[.agg (List.toArray (Value.int .i64 0 :: Value.int .i64 0 :: Value.int .i64 0 :: Value.int .i64 tt :: Value.int .i64 0 :: Value.int .i64 0 :: Value.int .i64 wt :: Value.int .i64 top :: Value.int .i64 0 :: Value.int .i64 0 :: Value.int .i64 0 :: Value.int .i64 0 :: Value.int .i64 0 :: Value.int .i64 0 :: Value.slice none 0 0 :: Value.slice none 0 0 :: Value.slice none 0 0 :: Value.int .i64 0 :: Value.int .i64 0 :: Value.slice none 0 0 :: Value.slice none 0 0 :: Value.slice none 0 0 :: Value.int .i64 0 :: Value.int .i64 0 :: Value.int .i64 0 :: Value.int .i64 0 :: Value.int .i64 0 :: Value.slice none 0 0 :: Value.int .i64 0 :: Value.slice none 0 0 :: Value.int .i64 0 :: Value.int .i64 0 :: Value.int .i64 0 :: Value.int .i64 0 :: Value.int .i64 0 :: Value.int .i64 0 :: Value.int .i64 0 :: Value.slice none 0 0 :: Value.slice none 0 0 :: [])), .int .i64 z] w fun e w' => e = .returned (.int .i64 (top + wt * z)) ∧ Below w.heap.size w w' := by
  have hm0 : 0 ≤ wt * z := Int.mul_nonneg h2 h6
  have hm1 : wt * z ≤ 40000 * 100000 := Int.mul_le_mul h3 (by omega) h6 (by omega)
  obtain ⟨cs, hcs⟩ : ∃ cs, cs = (List.toArray (Value.int .i64 0 :: Value.int .i64 0 :: Value.int .i64 0 :: Value.int .i64 tt :: Value.int .i64 0 :: Value.int .i64 0 :: Value.int .i64 wt :: Value.int .i64 top :: Value.int .i64 0 :: Value.int .i64 0 :: Value.int .i64 0 :: Value.int .i64 0 :: Value.int .i64 0 :: Value.int .i64 0 :: Value.slice none 0 0 :: Value.slice none 0 0 :: Value.slice none 0 0 :: Value.int .i64 0 :: Value.int .i64 0 :: Value.slice none 0 0 :: Value.slice none 0 0 :: Value.slice none 0 0 :: Value.int .i64 0 :: Value.int .i64 0 :: Value.int .i64 0 :: Value.int .i64 0 :: Value.int .i64 0 :: Value.slice none 0 0 :: Value.int .i64 0 :: Value.slice none 0 0 :: Value.int .i64 0 :: Value.int .i64 0 :: Value.int .i64 0 :: Value.int .i64 0 :: Value.int .i64 0 :: Value.int .i64 0 :: Value.int .i64 0 :: Value.slice none 0 0 :: Value.slice none 0 0 :: [])) := ⟨_, rfl⟩
  obtain ⟨w0, hw0⟩ : ∃ w0, w.alloc (.cells (List.toArray (Value.int .i64 0 :: Value.int .i64 0 :: Value.int .i64 0 :: Value.int .i64 tt :: Value.int .i64 0 :: Value.int .i64 0 :: Value.int .i64 wt :: Value.int .i64 top :: Value.int .i64 0 :: Value.int .i64 0 :: Value.int .i64 0 :: Value.int .i64 0 :: Value.int .i64 0 :: Value.int .i64 0 :: Value.slice none 0 0 :: Value.slice none 0 0 :: Value.slice none 0 0 :: Value.int .i64 0 :: Value.int .i64 0 :: Value.slice none 0 0 :: Value.slice none 0 0 :: Value.slice none 0 0 :: Value.int .i64 0 :: Value.int .i64 0 :: Value.int .i64 0 :: Value.int .i64 0 :: Value.int .i64 0 :: Value.slice none 0 0 :: Value.int .i64 0 :: Value.slice none 0 0 :: Value.int .i64 0 :: Value.int .i64 0 :: Value.int .i64 0 :: Value.int .i64 0 :: Value.int .i64 0 :: Value.int .i64 0 :: Value.int .i64 0 :: Value.slice none 0 0 :: Value.slice none 0 0 :: [])) 55) = w0 := ⟨_, rfl⟩
  have hb0 : Below w.heap.size w w0 := by rw [← hw0]; exact (Below.refl _ _).alloc (Nat.le_refl _) _
  have X0 := Lib.hid (show Box w0 w.heap.size 55 cs by rw [← hw0, hcs]; exact Box.new _ _ _ rfl)
  have hs0 : w0.heap.size = w.heap.size + 1 := by rw [← hw0]; simp
  obtain ⟨w1, hw1⟩ : ∃ w1, w0.alloc (.cells cs 67) = w1 := ⟨_, rfl⟩
  have hb1 : Below w.heap.size w w1 := by rw [← hw1]; exact hb0.alloc hb0.size _
  have X1 := Lib.hid (show Box w1 (w.heap.size + 1) 67 cs by rw [← hw1]; exact Box.new _ _ _ hs0.symm)
  have HB1 := Lib.hid hb1
  have HW0 := Lib.hid hw0
  have HW1 := Lib.hid hw1
  have HS0 := Lib.hid hs0
  clear hw0 hw1 hb1 hb0 hs0
  have hI : (Try.prog.info? 55).map (·.size) = some cs.size := by rw [hcs]; kernel_rfl
  have hI2 : (Try.prog.info? 67).map (·.size) = some cs.size := by rw [hcs]; kernel_rfl
  have hbt : Try.prog.built 67 [(0, .agg cs)] = some cs := by rw [hcs]; kernel_rfl
  have h1c : cs.all (·.oneCell') = true := by rw [hcs]; simp [Value.oneCell']
  have c3 : cs[3]? = some (.int .i64 tt) := by rw [hcs]; rfl
  have c4 : cs[4]? = some (.int .i64 0) := by rw [hcs]; rfl
  have c5 : cs[5]? = some (.int .i64 0) := by rw [hcs]; rfl
  have c6 : cs[6]? = some (.int .i64 wt) := by rw [hcs]; rfl
  have c7 : cs[7]? = some (.int .i64 top) := by rw [hcs]; rfl
  have HFL := Lib.hid (fun W => (by have := house_fluids tt wt top W (by omega) (by omega) h2 h3 h4 h5; rw [← hcs] at this; exact this : Calls Try.prog 17 #[.agg cs] W fun e w' => e = .returned (.bool true) ∧ Below W.heap.size W w'))
  have HCS := Lib.hid hcs
  clear hcs
  go_enter Try.func7, Try.ntmps7
  go_upto_region 1 with fail
  rw [HW0.out, ← HCS.out]
  refine wp_region_lit ?_
  refine wpList_plain rfl fun K1 hK1 => wp_load_row 55 (.tmp 2) rfl w.heap.size rfl 55 cs (0, 0) _ X0.out Try.underlying55 rfl hI (hK1 _ _ ?_)
  simp only [Act.put, List.setIfInBounds_toArray, List.set_cons_zero, List.set_cons_succ]
  refine wpList_build rfl 67 _ rfl (by simp [Act.eval, hbt]) ?_
  simp [Act.eval, hbt, Act.put]
  refine wpList_plain rfl fun K2 hK2 => ?_
  go_simp
  refine hK2 _ _ ?_
  clear hK2 K2
  refine wpList_plain rfl fun K3 hK3 => wp_store_row 67 (.tmp 5) (.tmp 7) rfl w0.heap.size cs rfl rfl 67 _ (heap_alloc_last w0 _) hI2 (by rw [HCS.out]; rfl) h1c (hK3 _ _ ?_)
  rw [World.setRow_alloc_new, HW1.out, HS0.out]
  simp only [Act.put]
  go_upto_region 2 with fail
  refine wp_region_lit ?_
  refine wpList_plain rfl fun K4 hK4 => wp_load_row 67 (.tmp 5) rfl (w.heap.size + 1) rfl 67 cs (0, 0) _ X1.out Try.underlying67 rfl hI2 (hK4 _ _ ?_)
  simp only [Act.put, List.setIfInBounds_toArray, List.set_cons_zero, List.set_cons_succ]
  go_wp2_with fail
  refine (HFL.out _).mono ?_
  rintro e w2 ⟨rfl, hb2⟩
  have X2 := Lib.hid (X1.out.under hb2)
  have HB2 := Lib.hid (HB1.out.trans (hb2.mono HB1.out.size))
  clear hb2 X1 HB1 HW1 HW0 HS0 X0 hI hI2 hbt h1c HFL HCS hK1 K1 hK4 K4
  have q3 := (show w2.cell? ⟨w.heap.size + 1, 3, none⟩ = some (.int .i64 tt) from (X2.out.cell 3).trans c3)
  have q4 := (show w2.cell? ⟨w.heap.size + 1, 4, none⟩ = some (.int .i64 0) from (X2.out.cell 4).trans c4)
  have q5 := (show w2.cell? ⟨w.heap.size + 1, 5, none⟩ = some (.int .i64 0) from (X2.out.cell 5).trans c5)
  have q6 := (show w2.cell? ⟨w.heap.size + 1, 6, none⟩ = some (.int .i64 wt) from (X2.out.cell 6).trans c6)
  have q7 := (show w2.cell? ⟨w.heap.size + 1, 7, none⟩ = some (.int .i64 top) from (X2.out.cell 7).trans c7)
  clear X2 c3 c4 c5 c6 c7
  have a2 : max 0 z = z := Int.max_eq_right h6
  have a3 : IntKind.i64.wrap (wt * z) = wt * z := IntWalk.i64_in _ (by omega)
  have a4 : IntKind.i64.wrap (top + wt * z) = top + wt * z := IntWalk.i64_in _ (by omega)
  have a5 : min z 0 = 0 := Int.min_eq_right h6
  have a6 : IntKind.i64.wrap top = top := IntWalk.i64_in _ (by omega)
  have a7 : IntKind.i64.wrap z = z := IntWalk.i64_in _ (by omega)
  by_cases hz0 : 0 < z
  · have d1 : decide (0 < z) = true := decide_eq_true hz0
    go_wp2_with (go_at_call 18; refine (house_in _ _ _ _ (by omega) (by omega)).mono ?_; rintro e w' ⟨rfl, rfl⟩)
    go_ret
    exact ⟨rfl, HB2.out⟩
  · obtain rfl : z = 0 := by omega
    go_wp2_with (go_at_call 18; refine (house_in _ _ _ _ (by omega) (by omega)).mono ?_; rintro e w' ⟨rfl, rfl⟩)
    go_ret
    exact ⟨ret_int (show top = top + wt * 0 by omega), HB2.out⟩

end Go.Proofs.Ytnhnheigdlnokaa
