/- Walks of the package casing: the best choice so far. -/
import Derived.Test.YtannipfohicpmaaKit
import Derived.WalkSmall
import Derived.WalkSpells
namespace Go.Proofs.Ytannipfohicpmaa
open Go.RowKit Go.Shelf Mpl

theorem int_one (l : List Int) : ∀ u ∈ l.map (Value.int .i64), u.oneCell' = true := by
  intro u hu
  obtain ⟨x, _, rfl⟩ := List.mem_map.1 hu
  rfl
theorem Ints.src {w : World} {B : Nat} {A : Option Addr} {l : List Int} (h : Ints w B A l) : Src w A l.length 1 (l.map (Value.int .i64)) :=
  ⟨by simp, fun h0 => by
    obtain ⟨b, off, rfl, _, hc⟩ := h h0
    refine ⟨b, off, rfl, fun j u hu => ?_⟩
    have hj : j < l.length := by have := (List.getElem?_eq_some_iff.1 hu).1; simpa using this
    have := hc j hj
    rw [this]
    simp [hj] at hu
    rw [← hu, pick_get l j hj]⟩

theorem eql_nil (a : Option Addr) (n c : Nat) (w : World) : (binOp .eql 37 (.slice a n c) (.slice none 0 0)).run Try.prog w = .ok (.bool a.isNone) w := by
  simp only [binOp]
  simp [Op.equal, Op.maxDepth, Lib.run_equalIn_slice_nil w 9999 37 3 a n c 0 0 Try.underlying37]

theorem info_int0 : (Try.prog.info? 3).map (fun i => (i.zero, i.size, i.bytes)) = some (some (.int .i64 0), 1, 8) := by kernel_rfl

set_option maxHeartbeats 1000000 in
theorem clone_int (l : List Int) (b off c : Nat) (w : World) (hl : Ints w w.heap.size (some ⟨b, off, none⟩) l) (hlen : l.length ≤ 1000) :
    Calls Try.prog 92 #[.slice (some ⟨b, off, none⟩) l.length c] w fun e w' => (∃ g cap, e = .returned (.slice (some ⟨g, 0, none⟩) l.length cap) ∧ w'.ownsRow w.heap.size 3 1 (.slice (some ⟨g, 0, none⟩) l.length cap) l.length (l.map (Value.int .i64))) ∧ Below w.heap.size w w' := by
  have hB1 := (Below.refl w.heap.size w).alloc (Nat.le_refl _) (.cells #[] 3)
  have HS := Lib.hid ((hl.up hB1 hB1.size).src)
  have HO : Hid ((w.alloc (.cells #[] 3)).ownsRow w.heap.size 3 1 (.slice (some ⟨w.heap.size, 0, none⟩) 0 0) 0 []) := World.ownsRow_lit w #[] 0 (Nat.le_refl _) (by unfold maxLen; omega) rfl
  have HOne := Lib.hid (int_one l)
  obtain ⟨i0, hi, hz0, hz1, hz2⟩ := info_parts info_int0
  have heq := eql_nil
  clear hl
  generalize l.map (Value.int .i64) = cells at *
  generalize l.length = nl at *
  go_enter Try.func92, Try.ntmps92
  go_wp2_with (at_builtin; refine wpList_append_own _ rfl _ _ 37 rfl w.heap.size 3 i0 (.int .i64 0) 1 8 Try.underlying37 hi hz0 hz1 hz2 rfl (by decide) _ 0 [] rfl HO.out ⟨b, off, none⟩ nl c cells rfl HS.out.1 ?_ HOne.out ?_ ?_ ?_ ?_)
  · intro j u hu
    rcases Nat.eq_zero_or_pos nl with h0 | h0
    · have h1 := HS.out.1
      have h2 := (List.getElem?_eq_some_iff.1 hu).1
      omega
    · obtain ⟨b', off', hA, hc⟩ := HS.out.2 h0
      cases hA
      rw [Addr.add_lit]
      exact hc j u hu
  · unfold maxLen; omega
  · omega
  · simp
  intro v1 w1 hown1 hg1 hnil
  have hB2 : Below w.heap.size w w1 := below_grown hB1 HO.out hg1 (by simp)
  have hv1 : ∃ g cap, v1 = .slice (some ⟨g, 0, none⟩) nl cap := by
    rcases hown1.2 with ⟨h1, _⟩ | ⟨g, cap, cur, h1, _⟩
    · exact (hnil h1).elim
    · exact ⟨g, cap, by simpa using h1⟩
  obtain ⟨g, cap, rfl⟩ := hv1
  have HO1 := Lib.hid hown1
  clear hown1 hg1 hnil
  go_wp2_with fail
  go_ret
  exact ⟨⟨g, cap, rfl, by simpa using HO1.out⟩, hB2⟩

set_option maxHeartbeats 1000000 in
theorem best_worse (bb : Nat) (a : Option Addr) (n cap : Nat) (c cost : Int) (w : World) (hb : Box w bb 89 #[.slice a n cap, .int .i64 c]) :
    Calls Try.prog 91 #[.pointer (some ⟨bb, 0, none⟩), .int .i64 cost] w fun e w' => e = .returned (.bool (a.isNone || decide (cost < c))) ∧ w = w' := by
  have q0 := hb.cell 0
  have q1 := hb.cell 1
  simp only [List.getElem?_toArray, List.getElem?_cons_zero, List.getElem?_cons_succ] at q0 q1
  have heq := eql_nil
  cases a with
  | none =>
    go_enter Try.func91, Try.ntmps91
    go_wp2_with fail
    go_ret
    exact ⟨rfl, rfl⟩
  | some a =>
    go_enter Try.func91, Try.ntmps91
    go_wp2_with fail
    go_ret
    exact ⟨rfl, rfl⟩

/-- behind an offer -/
def Offered (w : World) (bb : Nat) (wins : Bool) (old : Value) (c cost : Int) (l : List Int) (w' : World) : Prop :=
  w.grownBy w' (some bb) ∧ (wins = false → Box w' bb 89 #[old, .int .i64 c]) ∧ (wins = true → ∃ g cap, Box w' bb 89 #[.slice (some ⟨g, 0, none⟩) l.length cap, .int .i64 cost] ∧ w'.ownsRow w.heap.size 3 1 (.slice (some ⟨g, 0, none⟩) l.length cap) l.length (l.map (Value.int .i64)))

theorem only_set {a w : World} {g : Nat} (h : a.grownBy w (some g)) {j : Nat} (u : Value) : a.grownBy (w.setCell ⟨g, j, none⟩ u) (some g) :=
  ⟨h.os, h.tape, h.output, by simpa using h.size, fun i hi hne => (Below.heap_setCell w ⟨g, j, none⟩ u i (by rintro rfl; exact hne rfl)).trans (h.block i hi hne)⟩

set_option maxHeartbeats 1000000 in
theorem best_offer (bb : Nat) (a : Option Addr) (n cap : Nat) (c cost : Int) (l : List Int) (b off cl : Nat) (w : World) (hb : Box w bb 89 #[.slice a n cap, .int .i64 c]) (hl : Ints w w.heap.size (some ⟨b, off, none⟩) l) (hlen : l.length ≤ 1000) :
    Calls Try.prog 63 #[.pointer (some ⟨bb, 0, none⟩), .slice (some ⟨b, off, none⟩) l.length cl, .int .i64 cost] w fun e w' => (∃ v, e = .returned v) ∧ Offered w bb (a.isNone || decide (cost < c)) (.slice a n cap) c cost l w' := by
  have HW := Lib.hid (best_worse bb a n cap c cost w hb)
  have HC := Lib.hid (clone_int l b off cl w hl hlen)
  have HB := Lib.hid hb
  have hlt := hb.lt
  clear hl hb
  cases hw : (a.isNone || decide (cost < c))
  · rw [hw] at HW
    generalize l.length = nl at *
    go_enter Try.func63, Try.ntmps63
    go_wp2_with fail
    refine HW.out.mono ?_
    rintro e w' ⟨rfl, rfl⟩
    go_wp2_with fail
    go_end0
    exact ⟨⟨_, rfl⟩, World.grownBy.refl w _, (fun _ => HB.out), fun h => by cases h⟩
  · rw [hw] at HW
    have hnl : Hid (l.length = l.length) := rfl
    generalize hn : l.length = nl at *
    have HN := Lib.hid hn
    clear hn
    go_enter Try.func63, Try.ntmps63
    go_wp2_with fail
    refine HW.out.mono ?_
    rintro e w' ⟨rfl, rfl⟩
    go_wp2_with fail
    refine HC.out.mono ?_
    rintro e w1 ⟨⟨g, cap', rfl, hown⟩, hb1⟩
    have HO := Lib.hid hown
    have c0 := HB.out.under hb1
    have HC0 := Lib.hid c0
    have q0 := c0.cell 0
    have q1 := c0.cell 1
    have f0 := c0.frozen 0
    have f1 := c0.frozen 1
    simp only [List.getElem?_toArray, List.getElem?_cons_zero, List.getElem?_cons_succ] at q0 q1
    clear c0 hown
    go_wp2_with fail
    go_end0
    refine ⟨⟨_, rfl⟩, only_set (only_set (grown_of_below hb1 _) _) _, (fun h => by cases h), fun _ => ⟨g, cap', ?_, ?_⟩⟩
    · rw [HN.out]
      simpa using (HC0.out.set_ 0 (.slice (some ⟨g, 0, none⟩) nl cap')).set_ 1 (.int .i64 cost)
    · rw [HN.out]
      exact own_far (p := ⟨bb, 1, none⟩) (own_far (p := ⟨bb, 0, none⟩) HO.out (by simpa using hlt) _) (by simpa using hlt) _

end Go.Proofs.Ytannipfohicpmaa
