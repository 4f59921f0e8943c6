/- The hole that the laws of fluids show awake. -/
import Derived.Test.YtgcfplkfclapiaaFFlows2
import Derived.Test.YtgcfplkfclapiaaFPress3
namespace Go.Proofs.Ytgcfplkfclapiaa
open Go.RowKit Go.Shelf Mpl
attribute [local go_sem] Oper.semAt_some

def shownHole : List Seg := [⟨1000, 800, 300, 50⟩, ⟨2000, 2000, 400, 60⟩]
def shownC : Array Value := #[.int .i64 1000, .int .i64 800, .int .i64 300, .int .i64 50, .int .i64 2000, .int .i64 2000, .int .i64 400, .int .i64 60]
theorem shown_segs {w : World} {g : Nat} (h : Box w g 29 shownC) : Segs w w.heap.size (some ⟨g, 0, none⟩) shownHole := fun _ => ⟨g, 0, rfl, h.lt, fun i hi => by
  rcases (show i = 0 ∨ i = 1 by simp [shownHole] at hi; omega) with rfl | rfl
  · exact ⟨h.cell 0, h.cell 1, h.cell 2, h.cell 3⟩
  · exact ⟨h.cell 4, h.cell 5, h.cell 6, h.cell 7⟩⟩
theorem shown_hole {w : World} {g : Nat} (h : Box w g 29 shownC) : HoleV w w.heap.size (.agg #[.slice (some ⟨g, 0, none⟩) 2 2]) shownHole := ⟨_, _, rfl, shown_segs h⟩
theorem shown_in : SegsIn shownHole := by
  intro i
  match i with
  | 0 => simp [sg, shownHole, SegIn, inI64]
  | 1 => simp [sg, shownHole, SegIn, inI64]
  | i + 2 => simp [sg, shownHole, SegIn, inI64]
def oneSlug : List Slug := [⟨12000, 1100000⟩]
theorem one_slugs {w : World} {g : Nat} (h : Box w g 39 #[.int .i64 12000, .int .i64 1100000]) : Slugs w w.heap.size (some ⟨g, 0, none⟩) oneSlug := fun _ => ⟨g, 0, rfl, h.lt, fun i hi => by
  obtain rfl : i = 0 := by simp [oneSlug] at hi; omega
  exact ⟨h.cell 0, h.cell 1⟩⟩
theorem one_in : SlugsIn oneSlug := by
  intro i
  match i with
  | 0 => simp [slg, oneSlug, SlugIn, inI64]
  | i + 1 => simp [slg, oneSlug, SlugIn, inI64]

set_option maxHeartbeats 1000000 in
theorem law03_shown (w : World) :
    Calls Try.prog 58 #[] w fun e w' => (∃ g, e = .returned (.agg #[.slice (some ⟨g, 0, none⟩) 2 2]) ∧ Box w' g 29 shownC) ∧ Below w.heap.size w w' := by
  go_enter Try.func58, Try.ntmps58
  go_wp2_with fail
  have b1 := (Box.new w 25 #[.slice (some ⟨w.heap.size + 1, 0, none⟩) 2 2] rfl).alloc (.cells shownC 29)
  have b2 := Box.new (w.alloc (.cells #[.slice (some ⟨w.heap.size + 1, 0, none⟩) 2 2] 25)) 29 shownC (g := w.heap.size + 1) (by simp)
  have q0 := b1.cell 0
  simp only [shownC, List.getElem?_toArray, List.getElem?_cons_zero] at q0
  refine bodyPost_ret (results_cell1 rfl _ _ _ w.heap.size (.agg #[.slice (some ⟨w.heap.size + 1, 0, none⟩) 2 2]) rfl (by simp [go_sem, q0])) rfl ⟨⟨_, rfl, b2⟩, (by repeat (first | exact Below.refl _ _ | assumption | refine Below.setCell ?_ (by first | (simp; done) | (simp; omega)) _ | refine belowDrewN ?_ _ | refine Below.drew ?_ | refine Below.alloc ?_ (by first | (simp; done) | (simp; omega)) _))⟩

set_option maxHeartbeats 1000000 in
theorem law03_one (w : World) :
    Calls Try.prog 59 #[] w fun e w' => (∃ g, e = .returned (.slice (some ⟨g, 0, none⟩) 1 1) ∧ Box w' g 39 #[.int .i64 12000, .int .i64 1100000]) ∧ Below w.heap.size w w' := by
  go_enter Try.func59, Try.ntmps59
  go_wp2_with fail
  go_ret
  exact ⟨⟨_, rfl, Box.new _ _ _ rfl⟩, (by repeat (first | exact Below.refl _ _ | assumption | refine Below.setCell ?_ (by first | (simp; done) | (simp; omega)) _ | refine belowDrewN ?_ _ | refine Below.drew ?_ | refine Below.alloc ?_ (by first | (simp; done) | (simp; omega)) _))⟩

theorem shown_press0 : (press shownHole oneSlug 0 100).1.Lo = 33588000 ∧ (press shownHole oneSlug 0 100).1.Hi = 33600000 ∧ (press shownHole oneSlug 0 100).2 = 0 := by decide +kernel
theorem shown_press : press shownHole oneSlug 0 100 = (⟨33588000, 33600000⟩, 0) := by
  obtain ⟨h1, h2, h3⟩ := shown_press0
  generalize press shownHole oneSlug 0 100 = p at *
  obtain ⟨⟨a, b⟩, c⟩ := p
  simp_all
theorem shown_volume : volumeOf shownHole = 1100000 := by decide +kernel
theorem shown_flows : flows ⟨1000, 800, 300, 50⟩ ⟨100, 10⟩ 3 1 = true := by decide +kernel

theorem run_eql_rng (x0 x1 y0 y1 : Int) (w : World) : (binOp .eql 34 (.agg #[.int .i64 x0, .int .i64 x1]) (.agg #[.int .i64 y0, .int .i64 y1])).run Try.prog w = .ok (.bool (x0 == y0 && x1 == y1)) w := by
  have u3 := Try.underlying2
  have a3 := Try.isAgg2
  have z3 := Try.sizeOf2
  have hS : Try.prog.underlying 34 = some (.struct (Try.prog.fieldsOf 34)) := by kernel_rfl
  have hp : Try.prog.stoodInHeld 34 = false := by kernel_rfl
  rw [run_eql_struct, show (10000 : Nat) = 9999 + 1 from rfl, run_equalIn_agg w 9999 34 _ _ hS hp]
  simp only [Program.fieldsOf, Try.underlying34]
  go_simp
  by_cases h1 : x0 = y0 <;> by_cases h2 : x1 = y1 <;> simp [h1, h2]

set_option maxHeartbeats 2000000 in
set_option maxRecDepth 100000 in
theorem law03_awake (w : World) :
    Calls Try.prog 22 #[] w fun e w' => e = .returned (.bool true) ∧ Below w.heap.size w w' := by
  have hq := run_eql_rng
  go_enter Try.func22, Try.ntmps22
  go_wp2_with fail
  refine (law03_shown _).mono ?_
  rintro e w1 ⟨⟨g1, rfl, h1⟩, hb1⟩
  have H1 := Lib.hid h1
  clear h1
  go_wp2_with fail
  refine (law03_one _).mono ?_
  rintro e w2 ⟨⟨g2, rfl, h2⟩, hb2⟩
  have HP := Lib.hid (fluid_Press _ shownHole oneSlug (some ⟨g2, 0, none⟩) 1 0 100 w2 (shown_hole (H1.out.under hb2)) shown_in (by decide) (one_slugs h2) one_in (by decide) (by decide))
  rw [shown_press] at HP
  have HB := Lib.hid (hb1.trans (hb2.mono hb1.size))
  clear hb1 hb2 h2 H1
  go_wp2_with fail
  refine HP.out.mono ?_
  rintro e w3 ⟨rfl, hb3⟩
  replace HB := Lib.hid (HB.out.trans (hb3.mono HB.out.size))
  have hlt := Lib.hid HB.out.size
  clear hb3 HP
  obtain ⟨x0, x1⟩ := rng_box (Box.new w3 34 #[.int .i64 0, .int .i64 0] rfl)
  obtain ⟨x2, x3⟩ := rng_free (Box.new w3 34 #[.int .i64 0, .int .i64 0] rfl)
  go_wp2_with fail
  refine (law03_shown _).mono ?_
  rintro e w4 ⟨⟨g4, rfl, h4⟩, hb4⟩
  have HV := Lib.hid (fluid_Volume _ shownHole w4 (shown_hole h4) shown_in (by decide))
  rw [shown_volume] at HV
  have BA : Below w.heap.size w4 w4 := Below.refl _ _
  replace HB := Lib.hid ((HB.out.alloc HB.out.size _).trans (hb4.mono (by simp; have := hlt.out; omega)))
  clear hb4 h4 BA x0 x1 x2 x3
  go_wp2_with fail
  refine HV.out.mono ?_
  rintro e w5 ⟨rfl, hb5⟩
  replace HB := Lib.hid (HB.out.trans (hb5.mono HB.out.size))
  clear hb5 HV
  go_wp2_with fail
  refine (law03_shown _).mono ?_
  rintro e w6 ⟨⟨g6, rfl, h6⟩, hb6⟩
  replace HB := Lib.hid (HB.out.trans (hb6.mono HB.out.size))
  have c0 := h6.cell 0
  have c1 := h6.cell 1
  have c2 := h6.cell 2
  have c3 := h6.cell 3
  simp only [shownC, List.getElem?_toArray, List.getElem?_cons_zero, List.getElem?_cons_succ] at c0 c1 c2 c3
  have hf : (Instr.field 25 (.agg #[.slice (some ⟨g6, 0, none⟩) 2 2]) 0).run Try.prog w6 = .ok (.slice (some ⟨g6, 0, none⟩) 2 2) w6 := by kernel_rfl
  have HF := Lib.hid (fluid_Flows ⟨1000, 800, 300, 50⟩ ⟨100, 10⟩ 3 1 w6)
  rw [shown_flows] at HF
  clear hb6 h6
  go_wp2_with fail
  refine HF.out.mono ?_
  rintro e w7 ⟨rfl, hb7⟩
  go_wp2_with fail
  go_ret
  exact ⟨rfl, HB.out.trans (hb7.mono HB.out.size)⟩

end Go.Proofs.Ytgcfplkfclapiaa
