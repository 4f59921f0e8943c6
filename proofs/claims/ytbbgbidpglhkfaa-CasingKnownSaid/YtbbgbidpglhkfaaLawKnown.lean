/- The law CasingKnown, walked. -/
import Derived.Test.YtbbgbidpglhkfaaShown
import Derived.Test.YtbbgbidpglhkfaaPackCement
import Derived.Test.YtbbgbidpglhkfaaSame
import Derived.Test.YtbbgbidpglhkfaaChoose2
namespace Go.Proofs.Ytbbgbidpglhkfaa
open Go.RowKit Go.Shelf Mpl

def loadK : Stress := ⟨line2 0 500000000 200000 2500000000, line2 0 0 200000 2000000000⟩
theorem known_in : inside loadK 0 100000 = 500000000 ∧ outside loadK 0 100000 = -500000000 ∧ inside loadK 50000 50000 = 500000000 := by decide +kernel
theorem known_need : needed 500000000 1100 = 550000000 ∧ needed (-5) 1100 = 0 := by decide +kernel
theorem known_pulls : pullsOf (shownB 400000000) [0, 0] = [60000000, 30000000] ∧ pullsOf (shownB 400000000) [1, 0] = [50000000, 30000000] := by decide +kernel
theorem known_bears : bears (shownB 400000000) [0, 0] = (-1, 0, 0) ∧ bears (shownB 400000000) [0, 1] = (1, 1, 0) := by decide +kernel
theorem known_choose : chooseOf (shownB 400000000) = some [0, 0] ∧ chooseOf (shownB 500000000) = some [0, 1] := by decide +kernel
def holeK : List Seg := [⟨1000, 800, 300, 50⟩, ⟨2000, 2000, 400, 60⟩]
theorem cement_eq {p : Rng × Int} {a b c : Int} (h : p.1.Lo = a ∧ p.1.Hi = b ∧ p.2 = c) : p = (⟨a, b⟩, c) := by
  obtain ⟨⟨x, y⟩, z⟩ := p
  simp_all
theorem known_cement : cement holeK 700000 = (⟨1800, 1800⟩, 0) := cement_eq (by decide +kernel)
def testsK : List Test := [⟨50, true, 10⟩, ⟨60, false, 20⟩, ⟨40, true, 30⟩]
theorem known_proven : proven testsK 40 35 10 = true ∧ proven testsK 45 35 10 = false ∧ proven testsK 40 35 4 = false ∧ proven testsK 40 29 10 = false := by decide +kernel
theorem hole_segs {w : World} {g : Nat} (h : Box w g 37 #[.int .i64 1000, .int .i64 800, .int .i64 300, .int .i64 50, .int .i64 2000, .int .i64 2000, .int .i64 400, .int .i64 60]) : HoleV w w.heap.size (.agg #[.slice (some ⟨g, 0, none⟩) 2 2]) holeK := ⟨_, _, rfl, fun _ => ⟨g, 0, rfl, h.lt, fun i hi => by
  rcases (show i = 0 ∨ i = 1 by simp [holeK] at hi; omega) with rfl | rfl
  · exact ⟨h.cell 0, h.cell 1, h.cell 2, h.cell 3⟩
  · exact ⟨h.cell 4, h.cell 5, h.cell 6, h.cell 7⟩⟩⟩
theorem hole_in : SegsIn holeK := by
  intro i
  match i with
  | 0 => simp [sg, holeK, SegIn, inI64]
  | 1 => simp [sg, holeK, SegIn, inI64]
  | i + 2 => simp [sg, holeK, SegIn, inI64]
theorem tests_cells {w : World} {g : Nat} (h : Box w g 61 #[.int .i64 50, .bool true, .int .i64 10, .int .i64 60, .bool false, .int .i64 20, .int .i64 40, .bool true, .int .i64 30]) : Tests w w.heap.size (some ⟨g, 0, none⟩) testsK := fun _ => ⟨g, 0, rfl, h.lt, fun i hi => by
  rcases (show i = 0 ∨ i = 1 ∨ i = 2 by simp [testsK] at hi; omega) with rfl | rfl | rfl
  · exact ⟨h.cell 0, h.cell 1, h.cell 2⟩
  · exact ⟨h.cell 3, h.cell 4, h.cell 5⟩
  · exact ⟨h.cell 6, h.cell 7, h.cell 8⟩⟩
theorem tests_in : ticksIn testsK := by
  intro i
  match i with
  | 0 => simp [ts, testsK, inI64]
  | 1 => simp [ts, testsK, inI64]
  | 2 => simp [ts, testsK, inI64]
  | i + 3 => simp [ts, testsK, inI64]

/-- what the law holds in memory -/
structure KnC (w W : World) (gj gl gE gL gG g1 g2 : Nat) (b : Int) : Prop where
  j : Box W gj 42 #[.slice (some ⟨gE, 0, none⟩) 2 2, .slice (some ⟨gL, 0, none⟩) 1 1, .slice (some ⟨gG, 0, none⟩) 2 2, .int .i64 1000, .int .i64 0]
  l : Box W gl 48 #[.slice (some ⟨g1, 0, none⟩) 2 2, .slice (some ⟨g2, 0, none⟩) 2 2]
  s : ShownAt W gE gL gG g1 g2 b
  low : Below w.heap.size w W
  lo : w.heap.size ≤ gG
section
variable {w W W' : World} {gj gl gE gL gG g1 g2 : Nat} {b : Int}
theorem KnC.under (h : KnC w W gj gl gE gL gG g1 g2 b) (hb : Below W.heap.size W W') : KnC w W' gj gl gE gL gG g1 g2 b := ⟨h.j.under hb, h.l.under hb, h.s.under hb, h.low.trans (hb.mono h.low.size), h.lo⟩
theorem KnC.put (h : KnC w W gj gl gE gL gG g1 g2 b) (x : Int) : KnC w (W.setCell ⟨gG, 5, none⟩ (.int .i64 x)) gj gl gE gL gG g1 g2 x :=
  ⟨h.j.far (apartK h.j h.s.g (by decide)) _, h.l.far (apartK h.l h.s.g (by decide)) _, h.s.put x, h.low.setCell (p := ⟨gG, 5, none⟩) h.lo _, h.lo⟩
theorem KnC.cells (h : KnC w W gj gl gE gL gG g1 g2 b) : W.cell? ⟨gj, 0, none⟩ = some (.slice (some ⟨gE, 0, none⟩) 2 2) ∧ W.cell? ⟨gj, 1, none⟩ = some (.slice (some ⟨gL, 0, none⟩) 1 1) ∧ W.cell? ⟨gj, 2, none⟩ = some (.slice (some ⟨gG, 0, none⟩) 2 2) ∧ W.cell? ⟨gj, 3, none⟩ = some (.int .i64 1000) ∧ W.cell? ⟨gj, 4, none⟩ = some (.int .i64 0) := ⟨h.j.cell 0, h.j.cell 1, h.j.cell 2, h.j.cell 3, h.j.cell 4⟩
theorem KnC.lcells (h : KnC w W gj gl gE gL gG g1 g2 b) : W.cell? ⟨gl, 0, none⟩ = some (.slice (some ⟨g1, 0, none⟩) 2 2) ∧ W.cell? ⟨gl, 1, none⟩ = some (.slice (some ⟨g2, 0, none⟩) 2 2) := ⟨h.l.cell 0, h.l.cell 1⟩
end
theorem ints_putK {W : World} {gE gL gG g1 g2 : Nat} {A : Option Addr} (h : ShownAt W gE gL gG g1 g2 400000000) (hI : Ints W W.heap.size A [0, 0]) (x : Int) : Ints (W.setCell ⟨gG, 5, none⟩ (.int .i64 x)) (W.setCell ⟨gG, 5, none⟩ (.int .i64 x)).heap.size A [0, 0] := fun h0 => by
  obtain ⟨b, off, rfl, hlt, hc⟩ := hI h0
  have hne : b ≠ gG := by
    rintro rfl
    have h1 := h.g.cell (off + 0)
    rw [hc 0 (by simp)] at h1
    match off with
    | 0 | 1 | 2 | 3 | 4 | 5 | 6 | 7 | 8 | 9 => simp [pick] at h1
    | n + 10 => simp at h1
  exact ⟨b, off, rfl, by simpa using hlt, fun i hi => (World.cell?_of_block (a := ⟨b, off + i, none⟩) (Below.heap_setCell W ⟨gG, 5, none⟩ (.int .i64 x) b hne)).trans (hc i hi)⟩

theorem chosenK {W W' : World} {j : Job} {a b : Int} {e : Ending} (h : chooseOf j = some [a, b]) (hc : ChosenV W j e W') : (∃ A c, e = .returned (.tuple #[.slice A 2 c, .bool true]) ∧ Ints W' W'.heap.size A [a, b]) ∧ Below W.heap.size W W' := by
  unfold ChosenV at hc
  rw [h] at hc
  exact hc

set_option maxHeartbeats 8000000 in
set_option maxRecDepth 100000 in
theorem walk_CasingKnown (w : World) :
    Calls Try.prog 5 #[] w fun e w' => e = .returned (.bool true) ∧ Below w.heap.size w w' := by
  have I1 := Lib.hid (fun (W : World) {gE gL gG g1 g2 : Nat} {b : Int} (h : ShownAt W gE gL gG g1 g2 b) => (by have := casing_Inside loadK 0 100000 _ W h.stress; rw [known_in.1] at this; exact this : Calls Try.prog 13 #[.agg #[.slice (some ⟨g1, 0, none⟩) 2 2, .slice (some ⟨g2, 0, none⟩) 2 2], .int .i64 0, .int .i64 100000] W fun e w' => e = .returned (.int .i64 500000000) ∧ Below W.heap.size W w'))
  have O1 := Lib.hid (fun (W : World) {gE gL gG g1 g2 : Nat} {b : Int} (h : ShownAt W gE gL gG g1 g2 b) => (by have := casing_Outside loadK 0 100000 _ W h.stress; rw [known_in.2.1] at this; exact this : Calls Try.prog 14 #[.agg #[.slice (some ⟨g1, 0, none⟩) 2 2, .slice (some ⟨g2, 0, none⟩) 2 2], .int .i64 0, .int .i64 100000] W fun e w' => e = .returned (.int .i64 (-500000000)) ∧ Below W.heap.size W w'))
  have I2 := Lib.hid (fun (W : World) {gE gL gG g1 g2 : Nat} {b : Int} (h : ShownAt W gE gL gG g1 g2 b) => (by have := casing_Inside loadK 50000 50000 _ W h.stress; rw [known_in.2.2] at this; exact this : Calls Try.prog 13 #[.agg #[.slice (some ⟨g1, 0, none⟩) 2 2, .slice (some ⟨g2, 0, none⟩) 2 2], .int .i64 50000, .int .i64 50000] W fun e w' => e = .returned (.int .i64 500000000) ∧ Below W.heap.size W w'))
  have N1 := Lib.hid (fun W => (by have := casing_Needed 500000000 1100 W; rw [known_need.1] at this; exact this : Calls Try.prog 15 #[.int .i64 500000000, .int .i64 1100] W fun e w' => e = .returned (.int .i64 550000000) ∧ W = w'))
  have N2 := Lib.hid (fun W => (by have := casing_Needed (-5) 1100 W; rw [known_need.2] at this; exact this : Calls Try.prog 15 #[.int .i64 (-5), .int .i64 1100] W fun e w' => e = .returned (.int .i64 0) ∧ W = w'))
  have P1 := Lib.hid (fun (W : World) {gE gL gG g1 g2 g : Nat} (h : ShownAt W gE gL gG g1 g2 400000000) (hi : Box W g 3 #[.int .i64 0, .int .i64 0]) => (by have := casing_Pulls (shownB 400000000) [0, 0] _ (some ⟨g, 0, none⟩) 2 W h.job (ints2 hi) (by simp); rw [known_pulls.1] at this; exact this : Calls Try.prog 17 #[.agg #[.slice (some ⟨gE, 0, none⟩) 2 2, .slice (some ⟨gL, 0, none⟩) 1 1, .slice (some ⟨gG, 0, none⟩) 2 2, .int .i64 1000, .int .i64 0], .slice (some ⟨g, 0, none⟩) 2 2] W fun e w' => (∃ A' c', e = .returned (.slice A' 2 c') ∧ Ints w' w'.heap.size A' [60000000, 30000000]) ∧ Below W.heap.size W w'))
  have P2 := Lib.hid (fun (W : World) {gE gL gG g1 g2 g : Nat} (h : ShownAt W gE gL gG g1 g2 400000000) (hi : Box W g 3 #[.int .i64 1, .int .i64 0]) => (by have := casing_Pulls (shownB 400000000) [1, 0] _ (some ⟨g, 0, none⟩) 2 W h.job (ints2 hi) (by simp); rw [known_pulls.2] at this; exact this : Calls Try.prog 17 #[.agg #[.slice (some ⟨gE, 0, none⟩) 2 2, .slice (some ⟨gL, 0, none⟩) 1 1, .slice (some ⟨gG, 0, none⟩) 2 2, .int .i64 1000, .int .i64 0], .slice (some ⟨g, 0, none⟩) 2 2] W fun e w' => (∃ A' c', e = .returned (.slice A' 2 c') ∧ Ints w' w'.heap.size A' [50000000, 30000000]) ∧ Below W.heap.size W w'))
  have S1 := Lib.hid (fun (W : World) (A : Option Addr) (c g : Nat) (hA : Ints W W.heap.size A [60000000, 30000000]) (hi : Box W g 2 #[.int .i64 60000000, .int .i64 30000000]) => (by have := kit_SameLongs [60000000, 30000000] [60000000, 30000000] A (some ⟨g, 0, none⟩) c 2 W hA (ints2 hi) (by simp) (by simp); rw [show decide (([60000000, 30000000] : List Int) = [60000000, 30000000]) = true by decide] at this; exact this : Calls Try.prog 16 #[.slice A 2 c, .slice (some ⟨g, 0, none⟩) 2 2] W fun e w' => e = .returned (.bool true) ∧ Below W.heap.size W w'))
  have S2 := Lib.hid (fun (W : World) (A : Option Addr) (c g : Nat) (hA : Ints W W.heap.size A [50000000, 30000000]) (hi : Box W g 2 #[.int .i64 50000000, .int .i64 30000000]) => (by have := kit_SameLongs [50000000, 30000000] [50000000, 30000000] A (some ⟨g, 0, none⟩) c 2 W hA (ints2 hi) (by simp) (by simp); rw [show decide (([50000000, 30000000] : List Int) = [50000000, 30000000]) = true by decide] at this; exact this : Calls Try.prog 16 #[.slice A 2 c, .slice (some ⟨g, 0, none⟩) 2 2] W fun e w' => e = .returned (.bool true) ∧ Below W.heap.size W w'))
  have S3 := Lib.hid (fun (W : World) (A : Option Addr) (c g : Nat) (hA : Ints W W.heap.size A [0, 0]) (hi : Box W g 3 #[.int .i64 0, .int .i64 0]) => (by have := kit_SameInts [0, 0] [0, 0] A (some ⟨g, 0, none⟩) c 2 W hA (ints2 hi) (by simp) (by simp); rw [show decide (([0, 0] : List Int) = [0, 0]) = true by decide] at this; exact this : Calls Try.prog 20 #[.slice A 2 c, .slice (some ⟨g, 0, none⟩) 2 2] W fun e w' => e = .returned (.bool true) ∧ Below W.heap.size W w'))
  have S4 := Lib.hid (fun (W : World) (A : Option Addr) (c g : Nat) (hA : Ints W W.heap.size A [0, 1]) (hi : Box W g 3 #[.int .i64 0, .int .i64 1]) => (by have := kit_SameInts [0, 1] [0, 1] A (some ⟨g, 0, none⟩) c 2 W hA (ints2 hi) (by simp) (by simp); rw [show decide (([0, 1] : List Int) = [0, 1]) = true by decide] at this; exact this : Calls Try.prog 20 #[.slice A 2 c, .slice (some ⟨g, 0, none⟩) 2 2] W fun e w' => e = .returned (.bool true) ∧ Below W.heap.size W w'))
  have B1 := Lib.hid (fun (W : World) {gE gL gG g1 g2 g : Nat} (h : ShownAt W gE gL gG g1 g2 400000000) (hi : Box W g 3 #[.int .i64 0, .int .i64 0]) => (by have := casing_Bears (shownB 400000000) [0, 0] _ (some ⟨g, 0, none⟩) 2 W h.job (ints2 hi) (by simp); rw [known_bears.1] at this; exact this : Calls Try.prog 18 #[.agg #[.slice (some ⟨gE, 0, none⟩) 2 2, .slice (some ⟨gL, 0, none⟩) 1 1, .slice (some ⟨gG, 0, none⟩) 2 2, .int .i64 1000, .int .i64 0], .slice (some ⟨g, 0, none⟩) 2 2] W fun e w' => e = .returned (.tuple #[.int .i64 (-1), .int .i64 0, .int .i64 0]) ∧ Below W.heap.size W w'))
  have B2 := Lib.hid (fun (W : World) {gE gL gG g1 g2 g : Nat} (h : ShownAt W gE gL gG g1 g2 400000000) (hi : Box W g 3 #[.int .i64 0, .int .i64 1]) => (by have := casing_Bears (shownB 400000000) [0, 1] _ (some ⟨g, 0, none⟩) 2 W h.job (ints2 hi) (by simp); rw [known_bears.2] at this; exact this : Calls Try.prog 18 #[.agg #[.slice (some ⟨gE, 0, none⟩) 2 2, .slice (some ⟨gL, 0, none⟩) 1 1, .slice (some ⟨gG, 0, none⟩) 2 2, .int .i64 1000, .int .i64 0], .slice (some ⟨g, 0, none⟩) 2 2] W fun e w' => e = .returned (.tuple #[.int .i64 1, .int .i64 1, .int .i64 0]) ∧ Below W.heap.size W w'))
  have C1 := Lib.hid (fun (W : World) {gE gL gG g1 g2 : Nat} (h : ShownAt W gE gL gG g1 g2 400000000) => ((casing_Choose (shownB 400000000) _ W h.job).mono (fun _ _ hc => chosenK known_choose.1 hc) : Calls Try.prog 19 #[.agg #[.slice (some ⟨gE, 0, none⟩) 2 2, .slice (some ⟨gL, 0, none⟩) 1 1, .slice (some ⟨gG, 0, none⟩) 2 2, .int .i64 1000, .int .i64 0]] W fun e w' => (∃ A c, e = .returned (.tuple #[.slice A 2 c, .bool true]) ∧ Ints w' w'.heap.size A [0, 0]) ∧ Below W.heap.size W w'))
  have C2 := Lib.hid (fun (W : World) {gE gL gG g1 g2 : Nat} (h : ShownAt W gE gL gG g1 g2 500000000) => ((casing_Choose (shownB 500000000) _ W h.job).mono (fun _ _ hc => chosenK known_choose.2 hc) : Calls Try.prog 19 #[.agg #[.slice (some ⟨gE, 0, none⟩) 2 2, .slice (some ⟨gL, 0, none⟩) 1 1, .slice (some ⟨gG, 0, none⟩) 2 2, .int .i64 1000, .int .i64 0]] W fun e w' => (∃ A c, e = .returned (.tuple #[.slice A 2 c, .bool true]) ∧ Ints w' w'.heap.size A [0, 1]) ∧ Below W.heap.size W w'))
  have E1 := Lib.hid (fun (W : World) (g : Nat) (h : Box W g 37 #[.int .i64 1000, .int .i64 800, .int .i64 300, .int .i64 50, .int .i64 2000, .int .i64 2000, .int .i64 400, .int .i64 60]) => (by have := casing_Cement _ holeK 700000 W (hole_segs h) hole_in (by simp [holeK, maxLen]); rw [known_cement] at this; exact this : Calls Try.prog 7 #[.agg #[.slice (some ⟨g, 0, none⟩) 2 2], .int .i64 700000] W fun e w' => e = .returned (.tuple #[.agg #[.int .i64 1800, .int .i64 1800], .int .i64 0]) ∧ Below W.heap.size W w'))
  have V1 := Lib.hid (fun (W : World) (g : Nat) (h : Box W g 61 #[.int .i64 50, .bool true, .int .i64 10, .int .i64 60, .bool false, .int .i64 20, .int .i64 40, .bool true, .int .i64 30]) => (by have := casing_Proven testsK 40 35 10 (some ⟨g, 0, none⟩) 3 W (tests_cells h) (by simp [inI64]) (by simp [inI64]) tests_in; rw [known_proven.1] at this; exact this : Calls Try.prog 21 #[.slice (some ⟨g, 0, none⟩) 3 3, .int .i64 40, .int .i64 35, .int .i64 10] W fun e w' => e = .returned (.bool true) ∧ Below W.heap.size W w'))
  have V2 := Lib.hid (fun (W : World) (g : Nat) (h : Box W g 61 #[.int .i64 50, .bool true, .int .i64 10, .int .i64 60, .bool false, .int .i64 20, .int .i64 40, .bool true, .int .i64 30]) => (by have := casing_Proven testsK 45 35 10 (some ⟨g, 0, none⟩) 3 W (tests_cells h) (by simp [inI64]) (by simp [inI64]) tests_in; rw [known_proven.2.1] at this; exact this : Calls Try.prog 21 #[.slice (some ⟨g, 0, none⟩) 3 3, .int .i64 45, .int .i64 35, .int .i64 10] W fun e w' => e = .returned (.bool false) ∧ Below W.heap.size W w'))
  have V3 := Lib.hid (fun (W : World) (g : Nat) (h : Box W g 61 #[.int .i64 50, .bool true, .int .i64 10, .int .i64 60, .bool false, .int .i64 20, .int .i64 40, .bool true, .int .i64 30]) => (by have := casing_Proven testsK 40 35 4 (some ⟨g, 0, none⟩) 3 W (tests_cells h) (by simp [inI64]) (by simp [inI64]) tests_in; rw [known_proven.2.2.1] at this; exact this : Calls Try.prog 21 #[.slice (some ⟨g, 0, none⟩) 3 3, .int .i64 40, .int .i64 35, .int .i64 4] W fun e w' => e = .returned (.bool false) ∧ Below W.heap.size W w'))
  have V4 := Lib.hid (fun (W : World) (g : Nat) (h : Box W g 61 #[.int .i64 50, .bool true, .int .i64 10, .int .i64 60, .bool false, .int .i64 20, .int .i64 40, .bool true, .int .i64 30]) => (by have := casing_Proven testsK 40 29 10 (some ⟨g, 0, none⟩) 3 W (tests_cells h) (by simp [inI64]) (by simp [inI64]) tests_in; rw [known_proven.2.2.2] at this; exact this : Calls Try.prog 21 #[.slice (some ⟨g, 0, none⟩) 3 3, .int .i64 40, .int .i64 29, .int .i64 10] W fun e w' => e = .returned (.bool false) ∧ Below W.heap.size W w'))
  have hrng := run_eql_rngC
  go_enter Try.func5, Try.ntmps5
  go_wp2_with fail
  refine (law05_shownAt _).mono ?_
  rintro e w1 ⟨⟨gE, gL, gG, g1, g2, rfl, hs, hlo⟩, hb1⟩
  obtain ⟨w2, hw2⟩ : ∃ w2, w1.alloc (.cells #[.slice (some ⟨gE, 0, none⟩) 2 2, .slice (some ⟨gL, 0, none⟩) 1 1, .slice (some ⟨gG, 0, none⟩) 2 2, .int .i64 1000, .int .i64 0] 42) = w2 := ⟨_, rfl⟩
  have hb2 : Below w1.heap.size w1 w2 := by rw [← hw2]; exact (Below.refl _ _).alloc (Nat.le_refl _) _
  have X2 := Lib.hid (show Box w2 w1.heap.size 42 #[.slice (some ⟨gE, 0, none⟩) 2 2, .slice (some ⟨gL, 0, none⟩) 1 1, .slice (some ⟨gG, 0, none⟩) 2 2, .int .i64 1000, .int .i64 0] by rw [← hw2]; exact Box.new _ _ _ rfl)
  have S2' := Lib.hid (hs.under hb2)
  have L2 := Lib.hid (hb1.trans (hb2.mono hb1.size))
  have HW2 := Lib.hid hw2
  have HLO := Lib.hid hlo
  clear hs hlo hb1 hw2
  have q1 := (show w2.cell? ⟨w1.heap.size, 1, none⟩ = some (.slice (some ⟨gL, 0, none⟩) 1 1) from X2.out.cell 1)
  have r0 := (show w2.cell? ⟨gL, 0, none⟩ = some (.slice (some ⟨g1, 0, none⟩) 2 2) from S2'.out.l.cell 0)
  have r1 := (show w2.cell? ⟨gL, 1, none⟩ = some (.slice (some ⟨g2, 0, none⟩) 2 2) from S2'.out.l.cell 1)
  go_upto_region 2 with fail
  rw [HW2.out]
  obtain ⟨w3, hw3⟩ : ∃ w3, w2.alloc (.cells #[.slice (some ⟨g1, 0, none⟩) 2 2, .slice (some ⟨g2, 0, none⟩) 2 2] 48) = w3 := ⟨_, rfl⟩
  have hb3 : Below w2.heap.size w2 w3 := by rw [← hw3]; exact (Below.refl _ _).alloc (Nat.le_refl _) _
  have K : Hid (KnC w w3 w1.heap.size w2.heap.size gE gL gG g1 g2 400000000) := ⟨X2.out.under hb3, by rw [← hw3]; exact Box.new _ _ _ rfl, S2'.out.under hb3, L2.out.trans (hb3.mono L2.out.size), HLO.out⟩
  have HW3 := Lib.hid hw3
  clear hw3 hb3 hb2 X2 S2' L2 HLO HW2
  go_upto_region 3 with fail
  rw [HW3.out]
  clear HW3 q1 r0 r1
  obtain ⟨q0, q1⟩ := K.out.lcells
  go_wp2_with fail
  refine (I1.out _ K.out.s).mono ?_
  rintro e v1 ⟨rfl, hb⟩
  replace K := Lib.hid (K.out.under hb)
  clear hb q0 q1
  obtain ⟨q0, q1⟩ := K.out.lcells
  go_wp2_with fail
  refine (O1.out _ K.out.s).mono ?_
  rintro e v2 ⟨rfl, hb⟩
  replace K := Lib.hid (K.out.under hb)
  clear hb q0 q1
  obtain ⟨q0, q1⟩ := K.out.lcells
  go_wp2_with fail
  refine (I2.out _ K.out.s).mono ?_
  rintro e v3 ⟨rfl, hb⟩
  replace K := Lib.hid (K.out.under hb)
  clear hb q0 q1
  go_wp2_with fail
  refine (N1.out _).mono ?_
  rintro e w' ⟨rfl, rfl⟩
  go_wp2_with fail
  refine (N2.out _).mono ?_
  rintro e w' ⟨rfl, rfl⟩
  obtain ⟨q0, q1, q2, q3, q4⟩ := K.out.cells
  obtain ⟨v4, hv⟩ : ∃ v4, v3.alloc (.cells #[.int .i64 0, .int .i64 0] 3) = v4 := ⟨_, rfl⟩
  have hb : Below v3.heap.size v3 v4 := by rw [← hv]; exact (Below.refl _ _).alloc (Nat.le_refl _) _
  have BX := Lib.hid (show Box v4 v3.heap.size 3 #[.int .i64 0, .int .i64 0] by rw [← hv]; exact Box.new _ _ _ rfl)
  replace K := Lib.hid (K.out.under hb)
  have HV := Lib.hid hv
  clear hv
  clear hb
  go_wp2_with fail
  rw [HV.out]
  refine (P1.out _ K.out.s BX.out).mono ?_
  rintro e v5 ⟨⟨A', c', rfl, hI⟩, hb⟩
  replace K := Lib.hid (K.out.under hb)
  have HI := Lib.hid hI
  clear hI hb BX HV q0 q1 q2 q3 q4
  obtain ⟨v6, hv⟩ : ∃ v6, v5.alloc (.cells #[.int .i64 60000000, .int .i64 30000000] 2) = v6 := ⟨_, rfl⟩
  have hb : Below v5.heap.size v5 v6 := by rw [← hv]; exact (Below.refl _ _).alloc (Nat.le_refl _) _
  have BX := Lib.hid (show Box v6 v5.heap.size 2 #[.int .i64 60000000, .int .i64 30000000] by rw [← hv]; exact Box.new _ _ _ rfl)
  replace K := Lib.hid (K.out.under hb)
  have HV := Lib.hid hv
  clear hv
  replace HI := Lib.hid (HI.out.up hb hb.size)
  clear hb
  go_wp2_with fail
  rw [HV.out]
  refine (S1.out _ _ _ _ HI.out BX.out).mono ?_
  rintro e v7 ⟨rfl, hb⟩
  replace K := Lib.hid (K.out.under hb)
  clear hb BX HV HI
  obtain ⟨q0, q1, q2, q3, q4⟩ := K.out.cells
  obtain ⟨v8, hv⟩ : ∃ v8, v7.alloc (.cells #[.int .i64 1, .int .i64 0] 3) = v8 := ⟨_, rfl⟩
  have hb : Below v7.heap.size v7 v8 := by rw [← hv]; exact (Below.refl _ _).alloc (Nat.le_refl _) _
  have BX := Lib.hid (show Box v8 v7.heap.size 3 #[.int .i64 1, .int .i64 0] by rw [← hv]; exact Box.new _ _ _ rfl)
  replace K := Lib.hid (K.out.under hb)
  have HV := Lib.hid hv
  clear hv
  clear hb
  go_wp2_with fail
  rw [HV.out]
  refine (P2.out _ K.out.s BX.out).mono ?_
  rintro e v9 ⟨⟨A', c', rfl, hI⟩, hb⟩
  replace K := Lib.hid (K.out.under hb)
  have HI := Lib.hid hI
  clear hI hb BX HV q0 q1 q2 q3 q4
  obtain ⟨v10, hv⟩ : ∃ v10, v9.alloc (.cells #[.int .i64 50000000, .int .i64 30000000] 2) = v10 := ⟨_, rfl⟩
  have hb : Below v9.heap.size v9 v10 := by rw [← hv]; exact (Below.refl _ _).alloc (Nat.le_refl _) _
  have BX := Lib.hid (show Box v10 v9.heap.size 2 #[.int .i64 50000000, .int .i64 30000000] by rw [← hv]; exact Box.new _ _ _ rfl)
  replace K := Lib.hid (K.out.under hb)
  have HV := Lib.hid hv
  clear hv
  replace HI := Lib.hid (HI.out.up hb hb.size)
  clear hb
  go_wp2_with fail
  rw [HV.out]
  refine (S2.out _ _ _ _ HI.out BX.out).mono ?_
  rintro e v11 ⟨rfl, hb⟩
  replace K := Lib.hid (K.out.under hb)
  clear hb BX HV HI
  obtain ⟨q0, q1, q2, q3, q4⟩ := K.out.cells
  obtain ⟨v12, hv⟩ : ∃ v12, v11.alloc (.cells #[.int .i64 0, .int .i64 0] 3) = v12 := ⟨_, rfl⟩
  have hb : Below v11.heap.size v11 v12 := by rw [← hv]; exact (Below.refl _ _).alloc (Nat.le_refl _) _
  have BX := Lib.hid (show Box v12 v11.heap.size 3 #[.int .i64 0, .int .i64 0] by rw [← hv]; exact Box.new _ _ _ rfl)
  replace K := Lib.hid (K.out.under hb)
  have HV := Lib.hid hv
  clear hv
  clear hb
  go_wp2_with fail
  rw [HV.out]
  refine (B1.out _ K.out.s BX.out).mono ?_
  rintro e v13 ⟨rfl, hb⟩
  replace K := Lib.hid (K.out.under hb)
  clear hb BX HV q0 q1 q2 q3 q4
  obtain ⟨q0, q1, q2, q3, q4⟩ := K.out.cells
  obtain ⟨v14, hv⟩ : ∃ v14, v13.alloc (.cells #[.int .i64 0, .int .i64 1] 3) = v14 := ⟨_, rfl⟩
  have hb : Below v13.heap.size v13 v14 := by rw [← hv]; exact (Below.refl _ _).alloc (Nat.le_refl _) _
  have BX := Lib.hid (show Box v14 v13.heap.size 3 #[.int .i64 0, .int .i64 1] by rw [← hv]; exact Box.new _ _ _ rfl)
  replace K := Lib.hid (K.out.under hb)
  have HV := Lib.hid hv
  clear hv
  clear hb
  go_wp2_with fail
  rw [HV.out]
  refine (B2.out _ K.out.s BX.out).mono ?_
  rintro e v15 ⟨rfl, hb⟩
  replace K := Lib.hid (K.out.under hb)
  clear hb BX HV q0 q1 q2 q3 q4
  obtain ⟨q0, q1, q2, q3, q4⟩ := K.out.cells
  go_wp2_with fail
  refine (C1.out _ K.out.s).mono ?_
  rintro e v16 ⟨⟨A1, c1, rfl, hI⟩, hb⟩
  replace K := Lib.hid (K.out.under hb)
  have HA1 := Lib.hid hI
  clear hI hb q0 q1 q2 q3 q4
  have q2 := (show v16.cell? ⟨w1.heap.size, 2, none⟩ = some (.slice (some ⟨gG, 0, none⟩) 2 2) from K.out.j.cell 2)
  have r5 := (show v16.cell? ⟨gG, 5, none⟩ = some (.int .i64 400000000) from K.out.s.g.cell 5)
  have f5 := K.out.s.g.frozen 5
  have hgG := K.out.s.g.lt
  obtain ⟨v17, hv⟩ : ∃ v17, v16.setCell ⟨gG, 5, none⟩ (.int .i64 500000000) = v17 := ⟨_, rfl⟩
  have HA2 : Hid (Ints v17 v17.heap.size A1 [0, 0]) := by rw [← hv]; exact ints_putK K.out.s HA1.out 500000000
  have K2 : Hid (KnC w v17 w1.heap.size w2.heap.size gE gL gG g1 g2 500000000) := by rw [← hv]; exact K.out.put 500000000
  have HV := Lib.hid hv
  clear hv K HA1
  have K := Lib.hid K2.out
  have HA1 := Lib.hid HA2.out
  clear K2 HA2
  go_upto_region 11 with fail
  rw [HV.out]
  clear q2 r5 f5 hgG HV
  obtain ⟨q0, q1, q2, q3, q4⟩ := K.out.cells
  go_wp2_with fail
  refine (C2.out _ K.out.s).mono ?_
  rintro e v18 ⟨⟨A2, c2, rfl, hI⟩, hb⟩
  replace K := Lib.hid (K.out.under hb)
  replace HA1 := Lib.hid (HA1.out.up hb hb.size)
  have HA2 := Lib.hid hI
  clear hI hb q0 q1 q2 q3 q4
  obtain ⟨v19, hv⟩ : ∃ v19, v18.alloc (.cells #[.int .i64 0, .int .i64 0] 3) = v19 := ⟨_, rfl⟩
  have hb : Below v18.heap.size v18 v19 := by rw [← hv]; exact (Below.refl _ _).alloc (Nat.le_refl _) _
  have BX := Lib.hid (show Box v19 v18.heap.size 3 #[.int .i64 0, .int .i64 0] by rw [← hv]; exact Box.new _ _ _ rfl)
  replace K := Lib.hid (K.out.under hb)
  replace HA1 := Lib.hid (HA1.out.up hb hb.size)
  replace HA2 := Lib.hid (HA2.out.up hb hb.size)
  have HV := Lib.hid hv
  clear hv hb
  go_wp2_with fail
  rw [HV.out]
  refine (S3.out _ _ _ _ HA1.out BX.out).mono ?_
  rintro e v20 ⟨rfl, hb⟩
  replace K := Lib.hid (K.out.under hb)
  replace HA2 := Lib.hid (HA2.out.up hb hb.size)
  clear hb BX HV HA1
  obtain ⟨v21, hv⟩ : ∃ v21, v20.alloc (.cells #[.int .i64 0, .int .i64 1] 3) = v21 := ⟨_, rfl⟩
  have hb : Below v20.heap.size v20 v21 := by rw [← hv]; exact (Below.refl _ _).alloc (Nat.le_refl _) _
  have BX := Lib.hid (show Box v21 v20.heap.size 3 #[.int .i64 0, .int .i64 1] by rw [← hv]; exact Box.new _ _ _ rfl)
  replace K := Lib.hid (K.out.under hb)
  replace HA2 := Lib.hid (HA2.out.up hb hb.size)
  have HV := Lib.hid hv
  clear hv hb
  go_wp2_with fail
  rw [HV.out]
  refine (S4.out _ _ _ _ HA2.out BX.out).mono ?_
  rintro e v22 ⟨rfl, hb⟩
  replace K := Lib.hid (K.out.under hb)
  clear hb BX HV HA2
  obtain ⟨v23, hv⟩ : ∃ v23, (v22.alloc (.cells #[.int .i64 1000, .int .i64 800, .int .i64 300, .int .i64 50, .int .i64 2000, .int .i64 2000, .int .i64 400, .int .i64 60] 37)).alloc (.cells #[.slice (some ⟨v22.heap.size, 0, none⟩) 2 2] 24) = v23 := ⟨_, rfl⟩
  have hb : Below v22.heap.size v22 v23 := by rw [← hv]; exact ((Below.refl _ _).alloc (Nat.le_refl _) _).alloc (by simp) _
  have GS := Lib.hid (show Box v23 v22.heap.size 37 #[.int .i64 1000, .int .i64 800, .int .i64 300, .int .i64 50, .int .i64 2000, .int .i64 2000, .int .i64 400, .int .i64 60] by rw [← hv]; exact (Box.new _ _ _ rfl).alloc _)
  have GH := Lib.hid (show Box v23 (v22.heap.size + 1) 24 #[.slice (some ⟨v22.heap.size, 0, none⟩) 2 2] by rw [← hv]; exact Box.new _ _ _ (by simp))
  have L := Lib.hid (K.out.low.trans (hb.mono K.out.low.size))
  have HV := Lib.hid hv
  clear hv hb K
  have q0 := (show v23.cell? ⟨v22.heap.size + 1, 0, none⟩ = some (.slice (some ⟨v22.heap.size, 0, none⟩) 2 2) from GH.out.cell 0)
  go_upto_region 15 with fail
  rw [HV.out]
  go_wp2_with fail
  refine (E1.out _ _ GS.out).mono ?_
  rintro e v24 ⟨rfl, hb⟩
  replace L := Lib.hid (L.out.trans (hb.mono L.out.size))
  clear hb q0 GS GH HV
  obtain ⟨v25, hv⟩ : ∃ v25, (v24.alloc (.cells #[.int .i64 1800, .int .i64 1800] 27)).alloc (.cells #[.int .i64 50, .bool true, .int .i64 10, .int .i64 60, .bool false, .int .i64 20, .int .i64 40, .bool true, .int .i64 30] 61) = v25 := ⟨_, rfl⟩
  have hb : Below v24.heap.size v24 v25 := by rw [← hv]; exact ((Below.refl _ _).alloc (Nat.le_refl _) _).alloc (by simp) _
  have GR := Lib.hid (show Box v25 v24.heap.size 27 #[.int .i64 1800, .int .i64 1800] by rw [← hv]; exact (Box.new _ _ _ rfl).alloc _)
  have GT := Lib.hid (show Box v25 (v24.heap.size + 1) 61 #[.int .i64 50, .bool true, .int .i64 10, .int .i64 60, .bool false, .int .i64 20, .int .i64 40, .bool true, .int .i64 30] by rw [← hv]; exact Box.new _ _ _ (by simp))
  replace L := Lib.hid (L.out.trans (hb.mono L.out.size))
  have HV := Lib.hid hv
  clear hv hb
  have r0 := (show v25.cell? ⟨v24.heap.size, 0, none⟩ = some (.int .i64 1800) from GR.out.cell 0)
  have r1 := (show v25.cell? ⟨v24.heap.size, 1, none⟩ = some (.int .i64 1800) from GR.out.cell 1)
  go_upto_region 17 with fail
  rw [HV.out]
  clear HV GR
  go_wp2_with fail
  refine (V1.out _ _ GT.out).mono ?_
  rintro e v26 ⟨rfl, hb⟩
  replace GT := Lib.hid (GT.out.under hb)
  replace L := Lib.hid (L.out.trans (hb.mono L.out.size))
  clear hb r0 r1
  go_wp2_with fail
  refine (V2.out _ _ GT.out).mono ?_
  rintro e v27 ⟨rfl, hb⟩
  replace GT := Lib.hid (GT.out.under hb)
  replace L := Lib.hid (L.out.trans (hb.mono L.out.size))
  clear hb
  go_wp2_with fail
  refine (V3.out _ _ GT.out).mono ?_
  rintro e v28 ⟨rfl, hb⟩
  replace GT := Lib.hid (GT.out.under hb)
  replace L := Lib.hid (L.out.trans (hb.mono L.out.size))
  clear hb
  go_wp2_with fail
  refine (V4.out _ _ GT.out).mono ?_
  rintro e v29 ⟨rfl, hb⟩
  replace GT := Lib.hid (GT.out.under hb)
  replace L := Lib.hid (L.out.trans (hb.mono L.out.size))
  clear hb
  go_wp2_with fail
  refine (law05_awake _).mono ?_
  rintro e v30 ⟨rfl, hb⟩
  go_wp2_with fail
  go_ret
  exact ⟨rfl, L.out.trans (hb.mono L.out.size)⟩

end Go.Proofs.Ytbbgbidpglhkfaa
