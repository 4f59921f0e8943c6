/- Walks of Go's slices.Clone. (Printed by gen_clone.py.) -/
import Derived.Test.YtannipfohicpmaaPackCopy
import Derived.WalkSmall
import Derived.WalkSpells
namespace Go.Proofs.Ytannipfohicpmaa
open Go.ChangeShapes Go.WideShapes Go.RowKit Go.Shelf Go.Deep Mpl

theorem src_up {w w' : World} {A : Option Addr} {m size : Nat} {news : List Value} (h : Src w A m size news) (hb : Below w.heap.size w w') : Src w' A m size news :=
  ⟨h.1, fun h0 => by
    obtain ⟨b, off, hA, hc⟩ := h.2 h0
    exact ⟨b, off, hA, fun j u hu => (World.cell?_of_block (a := ⟨b, off + j, none⟩) (hb.block b (World.block_lt_of_cell? w ⟨b, off + j, none⟩ (hc j u hu)))).trans (hc j u hu)⟩⟩
theorem src_none {w : World} {m size : Nat} {news : List Value} (h : Src w none m size news) : m = 0 ∧ news = [] := by
  have h0 : m = 0 := by
    rcases Nat.eq_zero_or_pos m with h0 | h0
    · exact h0
    · obtain ⟨b, off, hA, _⟩ := h.2 h0
      cases hA
  subst h0
  exact ⟨rfl, List.eq_nil_of_length_eq_zero (by simpa using h.1)⟩
theorem src_some {w : World} {a : Addr} {m size : Nat} {news : List Value} (h : Src w (some a) m size news) : ∀ j u, news[j]? = some u → w.cell? (a.add j) = some u := by
  intro j u hu
  rcases Nat.eq_zero_or_pos m with h0 | h0
  · subst h0
    have hn : news = [] := List.eq_nil_of_length_eq_zero (by simpa using h.1)
    subst hn
    simp at hu
  · obtain ⟨b, off, hA, hc⟩ := h.2 h0
    cases hA
    rw [Addr.add_lit]
    exact hc j u hu

theorem eql_nil_int64 (a : Option Addr) (n c : Nat) (w : World) : (binOp .eql 32 (.slice a n c) (.slice none 0 0)).run Try.prog w = .ok (.bool a.isNone) w := by
  simp only [binOp]
  simp [Op.equal, Op.maxDepth, Lib.run_equalIn_slice_nil w 9999 32 2 a n c 0 0 Try.underlying32]

set_option maxHeartbeats 1000000 in
set_option maxRecDepth 100000 in
theorem clone_int64 (n c : Nat) (A : Option Addr) (cells : List Value) (w : World) (hs : Src w A n 1 cells) (hone : ∀ u ∈ cells, u.oneCell' = true) (hn : n ≤ 1000) :
    Calls Try.prog 67 #[.slice A n c] w fun e w' => (∃ A' c', e = .returned (.slice A' n c') ∧ w'.ownsRow w.heap.size 2 1 (.slice A' n c') n cells) ∧ Below w.heap.size w w' := by
  have heq := eql_nil_int64
  cases A with
  | none =>
    obtain ⟨rfl, rfl⟩ := src_none hs
    clear hs hone hn
    go_enter Try.func67, Try.ntmps67
    go_wp2_with fail
    go_ret
    exact ⟨⟨none, 0, rfl, World.ownsRow_nil _ _ _ _⟩, Below.refl _ _⟩
  | some a =>
    have hB1 := (Below.refl w.heap.size w).alloc (Nat.le_refl _) (.cells #[] 2)
    have HS := Lib.hid (src_up hs hB1)
    have HC := Lib.hid (src_some HS.out)
    have HO : Hid ((w.alloc (.cells #[] 2)).ownsRow w.heap.size 2 1 (.slice (some ⟨w.heap.size, 0, none⟩) 0 0) 0 []) := World.ownsRow_lit w #[] 0 (Nat.le_refl _) (by unfold maxLen; omega) rfl
    have HOne := Lib.hid hone
    obtain ⟨i0, hi, hz0, hz1, hz2⟩ := info_parts info_int64
    clear hs hone
    go_enter Try.func67, Try.ntmps67
    go_wp2_with (at_builtin; refine wpList_append_own _ rfl _ _ 32 rfl w.heap.size 2 i0 (.int .i64 0) 1 8 Try.underlying32 hi hz0 hz1 hz2 rfl (by decide) _ 0 [] rfl HO.out a n c cells rfl HS.out.1 ?c0 HOne.out ?c1 ?c2 ?c3 ?_)
    case c0 => exact HC.out
    case c1 => unfold maxLen; omega
    case c2 => omega
    case c3 => simp
    intro v1 w1 hown1 hg1 hnil
    have hB2 : Below w.heap.size w w1 := below_grown hB1 HO.out hg1 (by simp)
    obtain ⟨A', c', rfl, _, _⟩ := own_form hown1
    have HO1 := Lib.hid hown1
    clear hown1 hg1 hnil
    go_wp2_with fail
    go_ret
    exact ⟨⟨A', c', rfl, HO1.out⟩, hB2⟩

theorem eql_nil_grade (a : Option Addr) (n c : Nat) (w : World) : (binOp .eql 34 (.slice a n c) (.slice none 0 0)).run Try.prog w = .ok (.bool a.isNone) w := by
  simp only [binOp]
  simp [Op.equal, Op.maxDepth, Lib.run_equalIn_slice_nil w 9999 34 63 a n c 0 0 Try.underlying34]

set_option maxHeartbeats 1000000 in
set_option maxRecDepth 100000 in
theorem clone_grade (n c : Nat) (A : Option Addr) (cells : List Value) (w : World) (hs : Src w A n 5 cells) (hone : ∀ u ∈ cells, u.oneCell' = true) (hn : n ≤ 1000) :
    Calls Try.prog 68 #[.slice A n c] w fun e w' => (∃ A' c', e = .returned (.slice A' n c') ∧ w'.ownsRow w.heap.size 63 5 (.slice A' n c') n cells) ∧ Below w.heap.size w w' := by
  have heq := eql_nil_grade
  cases A with
  | none =>
    obtain ⟨rfl, rfl⟩ := src_none hs
    clear hs hone hn
    go_enter Try.func68, Try.ntmps68
    go_wp2_with fail
    go_ret
    exact ⟨⟨none, 0, rfl, World.ownsRow_nil _ _ _ _⟩, Below.refl _ _⟩
  | some a =>
    have hB1 := (Below.refl w.heap.size w).alloc (Nat.le_refl _) (.cells #[] 63)
    have HS := Lib.hid (src_up hs hB1)
    have HC := Lib.hid (src_some HS.out)
    have HO : Hid ((w.alloc (.cells #[] 63)).ownsRow w.heap.size 63 5 (.slice (some ⟨w.heap.size, 0, none⟩) 0 0) 0 []) := World.ownsRow_lit w #[] 0 (Nat.le_refl _) (by unfold maxLen; omega) rfl
    have HOne := Lib.hid hone
    obtain ⟨i0, hi, hz0, hz1, hz2⟩ := info_parts info_Grade
    clear hs hone
    go_enter Try.func68, Try.ntmps68
    go_wp2_with (at_builtin; refine wpList_append_own _ rfl _ _ 34 rfl w.heap.size 63 i0 (.agg #[.int .i64 0, .int .i64 0, .int .i64 0, .int .i64 0, .int .i64 0]) 5 40 Try.underlying34 hi hz0 hz1 hz2 rfl (by decide) _ 0 [] rfl HO.out a n c cells rfl HS.out.1 ?c0 HOne.out ?c1 ?c2 ?c3 ?_)
    case c0 => exact HC.out
    case c1 => unfold maxLen; omega
    case c2 => omega
    case c3 => simp
    intro v1 w1 hown1 hg1 hnil
    have hB2 : Below w.heap.size w w1 := below_grown hB1 HO.out hg1 (by simp)
    obtain ⟨A', c', rfl, _, _⟩ := own_form hown1
    have HO1 := Lib.hid hown1
    clear hown1 hg1 hnil
    go_wp2_with fail
    go_ret
    exact ⟨⟨A', c', rfl, HO1.out⟩, hB2⟩

theorem eql_nil_stress (a : Option Addr) (n c : Nat) (w : World) : (binOp .eql 33 (.slice a n c) (.slice none 0 0)).run Try.prog w = .ok (.bool a.isNone) w := by
  simp only [binOp]
  simp [Op.equal, Op.maxDepth, Lib.run_equalIn_slice_nil w 9999 33 26 a n c 0 0 Try.underlying33]

set_option maxHeartbeats 1000000 in
set_option maxRecDepth 100000 in
theorem clone_stress (n c : Nat) (A : Option Addr) (cells : List Value) (w : World) (hs : Src w A n 2 cells) (hone : ∀ u ∈ cells, u.oneCell' = true) (hn : n ≤ 1000) :
    Calls Try.prog 69 #[.slice A n c] w fun e w' => (∃ A' c', e = .returned (.slice A' n c') ∧ w'.ownsRow w.heap.size 26 2 (.slice A' n c') n cells) ∧ Below w.heap.size w w' := by
  have heq := eql_nil_stress
  cases A with
  | none =>
    obtain ⟨rfl, rfl⟩ := src_none hs
    clear hs hone hn
    go_enter Try.func69, Try.ntmps69
    go_wp2_with fail
    go_ret
    exact ⟨⟨none, 0, rfl, World.ownsRow_nil _ _ _ _⟩, Below.refl _ _⟩
  | some a =>
    have hB1 := (Below.refl w.heap.size w).alloc (Nat.le_refl _) (.cells #[] 26)
    have HS := Lib.hid (src_up hs hB1)
    have HC := Lib.hid (src_some HS.out)
    have HO : Hid ((w.alloc (.cells #[] 26)).ownsRow w.heap.size 26 2 (.slice (some ⟨w.heap.size, 0, none⟩) 0 0) 0 []) := World.ownsRow_lit w #[] 0 (Nat.le_refl _) (by unfold maxLen; omega) rfl
    have HOne := Lib.hid hone
    obtain ⟨i0, hi, hz0, hz1, hz2⟩ := info_parts info_Stress
    clear hs hone
    go_enter Try.func69, Try.ntmps69
    go_wp2_with (at_builtin; refine wpList_append_own _ rfl _ _ 33 rfl w.heap.size 26 i0 (.agg #[.slice none 0 0, .slice none 0 0]) 2 48 Try.underlying33 hi hz0 hz1 hz2 rfl (by decide) _ 0 [] rfl HO.out a n c cells rfl HS.out.1 ?c0 HOne.out ?c1 ?c2 ?c3 ?_)
    case c0 => exact HC.out
    case c1 => unfold maxLen; omega
    case c2 => omega
    case c3 => simp
    intro v1 w1 hown1 hg1 hnil
    have hB2 : Below w.heap.size w w1 := below_grown hB1 HO.out hg1 (by simp)
    obtain ⟨A', c', rfl, _, _⟩ := own_form hown1
    have HO1 := Lib.hid hown1
    clear hown1 hg1 hnil
    go_wp2_with fail
    go_ret
    exact ⟨⟨A', c', rfl, HO1.out⟩, hB2⟩

theorem eql_nil_knot (a : Option Addr) (n c : Nat) (w : World) : (binOp .eql 22 (.slice a n c) (.slice none 0 0)).run Try.prog w = .ok (.bool a.isNone) w := by
  simp only [binOp]
  simp [Op.equal, Op.maxDepth, Lib.run_equalIn_slice_nil w 9999 22 71 a n c 0 0 Try.underlying22]

set_option maxHeartbeats 1000000 in
set_option maxRecDepth 100000 in
theorem clone_knot (n c : Nat) (A : Option Addr) (cells : List Value) (w : World) (hs : Src w A n 2 cells) (hone : ∀ u ∈ cells, u.oneCell' = true) (hn : n ≤ 1000) :
    Calls Try.prog 70 #[.slice A n c] w fun e w' => (∃ A' c', e = .returned (.slice A' n c') ∧ w'.ownsRow w.heap.size 71 2 (.slice A' n c') n cells) ∧ Below w.heap.size w w' := by
  have heq := eql_nil_knot
  cases A with
  | none =>
    obtain ⟨rfl, rfl⟩ := src_none hs
    clear hs hone hn
    go_enter Try.func70, Try.ntmps70
    go_wp2_with fail
    go_ret
    exact ⟨⟨none, 0, rfl, World.ownsRow_nil _ _ _ _⟩, Below.refl _ _⟩
  | some a =>
    have hB1 := (Below.refl w.heap.size w).alloc (Nat.le_refl _) (.cells #[] 71)
    have HS := Lib.hid (src_up hs hB1)
    have HC := Lib.hid (src_some HS.out)
    have HO : Hid ((w.alloc (.cells #[] 71)).ownsRow w.heap.size 71 2 (.slice (some ⟨w.heap.size, 0, none⟩) 0 0) 0 []) := World.ownsRow_lit w #[] 0 (Nat.le_refl _) (by unfold maxLen; omega) rfl
    have HOne := Lib.hid hone
    obtain ⟨i0, hi, hz0, hz1, hz2⟩ := info_parts info_Knot
    clear hs hone
    go_enter Try.func70, Try.ntmps70
    go_wp2_with (at_builtin; refine wpList_append_own _ rfl _ _ 22 rfl w.heap.size 71 i0 (.agg #[.int .i64 0, .int .i64 0]) 2 16 Try.underlying22 hi hz0 hz1 hz2 rfl (by decide) _ 0 [] rfl HO.out a n c cells rfl HS.out.1 ?c0 HOne.out ?c1 ?c2 ?c3 ?_)
    case c0 => exact HC.out
    case c1 => unfold maxLen; omega
    case c2 => omega
    case c3 => simp
    intro v1 w1 hown1 hg1 hnil
    have hB2 : Below w.heap.size w w1 := below_grown hB1 HO.out hg1 (by simp)
    obtain ⟨A', c', rfl, _, _⟩ := own_form hown1
    have HO1 := Lib.hid hown1
    clear hown1 hg1 hnil
    go_wp2_with fail
    go_ret
    exact ⟨⟨A', c', rfl, HO1.out⟩, hB2⟩

end Go.Proofs.Ytannipfohicpmaa
