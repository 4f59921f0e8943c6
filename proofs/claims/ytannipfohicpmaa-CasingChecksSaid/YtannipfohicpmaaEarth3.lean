/- Walks of the package earth, third part: the part of a line in which a place lies, and the value there. -/
import Derived.Test.YtannipfohicpmaaEarth2
namespace Go.Proofs.Ytannipfohicpmaa
open Go.RowKit Go.Shelf Mpl

set_option maxHeartbeats 4000000 in
set_option maxRecDepth 100000 in
theorem find_core (ks : List Knot) (blk off : Nat) (c n i : Nat) (t : Bool) (x : Int) (w : World) (hb : blk < w.heap.size) (hi : i ≤ n) (h24 : n ≤ 24) (h0 : 0 < n) (hit : t = true → i < n)
    (hcall : ∀ W, Below w.heap.size w W → Calls Try.prog 109 #[.slice (some ⟨blk, off, none⟩) n c, .int .i64 x, .func (.func 110) #[] #[]] W fun e W' =>
      e = .returned (.tuple #[.int .i64 i, .bool t]) ∧ Below W.heap.size W W')
    (hc : ∀ i, i < n → w.cell? ⟨blk, off + i * 2, none⟩ = some (.int .i64 (kn ks i).At) ∧ w.cell? ⟨blk, off + i * 2 + 1, none⟩ = some (.int .i64 (kn ks i).V)) :
    Calls Try.prog 96 #[.agg #[.slice (some ⟨blk, off, none⟩) n c], .int .i64 x] w fun e w' =>
      e = .returned (.agg #[.int .i64 (kn ks (if t then i else i - 1)).At, .int .i64 (kn ks (if t then i else i - 1)).V, .int .i64 (kn ks (min i (n - 1))).At, .int .i64 (kn ks (min i (n - 1))).V]) ∧ Below w.heap.size w w' := by
  have hB := ((Below.refl w.heap.size w).alloc (Nat.le_refl _) (.cells #[.slice (some ⟨blk, off, none⟩) n c] 24)).alloc (by simp) (.cells #[.int .i64 0, .int .i64 0, .int .i64 0, .int .i64 0] 127)
  have HC := Lib.hid (hcall _ hB)
  clear hcall
  obtain ⟨f, hf⟩ : ∃ f, f = (if t then i else i - 1) := ⟨_, rfl⟩
  obtain ⟨l, hl⟩ : ∃ l, l = min i (n - 1) := ⟨_, rfl⟩
  rw [← hf, ← hl]
  obtain ⟨f0, f1⟩ := hc f (by subst hf; cases t <;> simp <;> first | omega | exact hit rfl)
  obtain ⟨l0, l1⟩ := hc l (by omega)
  clear hc
  have hcases : (t = true ∧ i < n ∧ 0 < i ∧ f = i ∧ l = i) ∨ (t = false ∧ i < n ∧ 0 < i ∧ f = i - 1 ∧ l = i) ∨ (t = true ∧ i < n ∧ i = 0 ∧ f = 0 ∧ l = 0) ∨ (t = false ∧ i < n ∧ i = 0 ∧ f = 0 ∧ l = 0) ∨ (t = false ∧ n ≤ i ∧ i = n ∧ f = n - 1 ∧ l = n - 1) := by
    cases t
    · simp at hf ⊢; omega
    · have := hit rfl
      simp at hf ⊢; omega
  clear hf hl hit
  rcases hcases with ⟨rfl, hlt, hpos, rfl, rfl⟩ | ⟨rfl, hlt, hpos, rfl, rfl⟩ | ⟨rfl, hlt, rfl, rfl, rfl⟩ | ⟨rfl, hlt, rfl, rfl, rfl⟩ | ⟨rfl, hlt, rfl, rfl, rfl⟩
  all_goals
    try simp only [Nat.zero_mul, Nat.add_zero] at f0 f1 l0 l1
    go_enter Try.func96, Try.ntmps96
    go_wp2_with fail
    refine HC.out.mono ?_
    rintro e w1 ⟨rfl, hb1⟩
    have b0 : Box w1 w.heap.size _ _ := ((Box.new w 24 #[.slice (some ⟨blk, off, none⟩) _ c] rfl).alloc _).under hb1
    have b1 : Box w1 (w.heap.size + 1) _ _ := (Box.new (w.alloc (.cells #[.slice (some ⟨blk, off, none⟩) _ c] 24)) 127 #[.int .i64 0, .int .i64 0, .int .i64 0, .int .i64 0] (by simp)).under hb1
    have hB1 := hB.trans (hb1.mono (by simp; omega))
    have q0 := b0.cell 0
    have q1 := b1.cell 0
    have q2 := b1.cell 1
    have q3 := b1.cell 2
    have q4 := b1.cell 3
    have q5 := b1.frozen 0
    have q6 := b1.frozen 1
    have q7 := b1.frozen 2
    have q8 := b1.frozen 3
    simp only [List.getElem?_toArray, List.getElem?_cons_zero, List.getElem?_cons_succ] at q0 q1 q2 q3 q4
    have g0 := oldCell hB1 hb f0
    have g1 := oldCell hB1 hb f1
    have g2 := oldCell hB1 hb l0
    have g3 := oldCell hB1 hb l1
    clear f0 f1 l0 l1
    go_wp2_with fail
    go_quiet (fail)
    go_wp2_with fail
    go_region
    go_wp2_with fail
    refine bodyPost_ret ?_ rfl ⟨rfl, ?_⟩
    · simp [results, Try.results96, go_sem, q1, q2, q3, q4]
    · exact ((((belowDrewN hB1 _).setCell (by simp) _).setCell (by simp) _).setCell (by simp) _).setCell (by simp) _

theorem run_eql_knot (x0 x1 y0 y1 : Int) (w : World) : (binOp .eql 71 (.agg #[.int .i64 x0, .int .i64 x1]) (.agg #[.int .i64 y0, .int .i64 y1])).run Try.prog w = .ok (.bool (x0 == y0 && x1 == y1)) w := by
  have u3 := Try.underlying2
  have a3 := Try.isAgg2
  have z3 := Try.sizeOf2
  have hS : Try.prog.underlying 71 = some (.struct (Try.prog.fieldsOf 71)) := by kernel_rfl
  have hp : Try.prog.stoodInHeld 71 = false := by kernel_rfl
  rw [run_eql_struct, show (10000 : Nat) = 9999 + 1 from rfl, run_equalIn_agg w 9999 71 _ _ hS hp]
  simp only [Program.fieldsOf, Try.underlying71]
  go_simp
  by_cases h1 : x0 = y0 <;> by_cases h2 : x1 = y1 <;> simp [h1, h2]

set_option maxHeartbeats 2000000 in
set_option maxRecDepth 100000 in
theorem part_same (a0 a1 x : Int) (w : World) :
    Calls Try.prog 97 #[.agg #[.int .i64 a0, .int .i64 a1, .int .i64 a0, .int .i64 a1], .int .i64 x] w fun e w' =>
      e = .returned (.tuple #[.int .i64 a1, .int .i64 0, .int .i64 1]) ∧ Below w.heap.size w w' := by
  have he := run_eql_knot
  go_enter Try.func97, Try.ntmps97
  go_wp2_with fail
  go_region
  all_goals
    go_wp2_with fail
    go_ret3
    exact ⟨rfl, (by repeat (first | exact Below.refl _ _ | assumption | refine Below.setCell ?_ (by first | (simp; done) | (simp; omega)) _ | refine belowDrewN ?_ _ | refine Below.drew ?_ | refine Below.alloc ?_ (by first | (simp; done) | (simp; omega)) _))⟩

theorem part_num (N d a1 : Int) (hd : 0 < d) (h1 : -68719476736 * d ≤ N) (h2 : N ≤ 68719476736 * d) (h3 : d ≤ 1099511627776) (h4 : 0 ≤ a1) (h5 : a1 ≤ 68719476736) (h6 : -4611686018427387904 ≤ N) (h7 : N ≤ 4611686018427387904) :
    wrap64 (a1 + N / d) = a1 + N / d ∧ wrap64 (N - wrap64 (N / d * d)) = N % d := by
  have e1 : -68719476736 ≤ N / d := Int.le_ediv_of_mul_le hd h1
  have e2 : N / d ≤ 68719476736 := Int.ediv_le_of_le_mul hd h2
  have e3 := Int.mul_ediv_add_emod N d
  have e4 := Int.emod_nonneg N (show d ≠ 0 by omega)
  have e5 := Int.emod_lt_of_pos N hd
  rw [Int.mul_comm] at e3
  refine ⟨IntWalk.wrap64_in _ ⟨by omega, by omega⟩, ?_⟩
  rw [IntWalk.wrap64_in (N / d * d) ⟨by omega, by omega⟩, IntWalk.wrap64_in _ ⟨by omega, by omega⟩]
  omega

theorem part_room (d y x : Int) (h1 : -68719476736 ≤ y) (h2 : y ≤ 68719476736) (hx : 0 ≤ x) (hd : x ≤ d) : -68719476736 * d ≤ y * x ∧ y * x ≤ 68719476736 * d := by
  have a1 : y * x ≤ 68719476736 * x := Int.mul_le_mul_of_nonneg_right h2 hx
  have a2 : -68719476736 * x ≤ y * x := Int.mul_le_mul_of_nonneg_right h1 hx
  constructor <;> omega

set_option maxHeartbeats 2000000 in
set_option maxRecDepth 100000 in
theorem part_at (a0 a1 b0 b1 x : Int) (w : World) (h1 : a0 < b0) (h2 : -4611686018427387904 ≤ (b1 - a1) * (x - a0)) (h3 : (b1 - a1) * (x - a0) ≤ 4611686018427387904) (h4 : 0 ≤ a1) (h5 : a1 ≤ 68719476736) (h6 : 0 ≤ b1) (h7 : b1 ≤ 68719476736)
   (h8 : 0 ≤ a0) (h9 : b0 ≤ 1099511627776) (h10 : a0 ≤ x) (h11 : x ≤ b0) :
    Calls Try.prog 97 #[.agg #[.int .i64 a0, .int .i64 a1, .int .i64 b0, .int .i64 b1], .int .i64 x] w fun e w' =>
      e = .returned (.tuple #[.int .i64 (a1 + (b1 - a1) * (x - a0) / (b0 - a0)), .int .i64 ((b1 - a1) * (x - a0) % (b0 - a0)), .int .i64 (b0 - a0)]) ∧ Below w.heap.size w w' := by
  have he := run_eql_knot
  have hne : (a0 == b0 && a1 == b1) = false := by simp; omega
  have hroom := part_room (b0 - a0) (b1 - a1) (x - a0) (by omega) (by omega) (by omega) (by omega)
  have hnum := Lib.hid (part_num ((b1 - a1) * (x - a0)) (b0 - a0) a1 (by omega) hroom.1 hroom.2 (by omega) h4 h5 h2 h3)
  clear hroom
  go_enter Try.func97, Try.ntmps97
  go_wp2_with fail
  go_region
  all_goals
    go_wp2_with (go_at_call 112; refine (earth_floor _ _ _ (by omega) h2 h3 (by omega)).mono ?_; rintro e w' ⟨rfl, rfl⟩)
    go_ret3
    refine ⟨?_, (by repeat (first | exact Below.refl _ _ | assumption | refine Below.setCell ?_ (by first | (simp; done) | (simp; omega)) _ | refine belowDrewN ?_ _ | refine Below.drew ?_ | refine Below.alloc ?_ (by first | (simp; done) | (simp; omega)) _))⟩
    show Ending.returned (.tuple #[.int .i64 (wrap64 (a1 + (b1 - a1) * (x - a0) / (b0 - a0))), .int .i64 (wrap64 ((b1 - a1) * (x - a0) - wrap64 ((b1 - a1) * (x - a0) / (b0 - a0) * (b0 - a0)))), .int .i64 (b0 - a0)]) = _
    rw [hnum.out.1, hnum.out.2]

end Go.Proofs.Ytannipfohicpmaa
