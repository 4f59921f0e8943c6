/- The law FluidKnown, walked. (Printed by gen_fknown.py.) -/
import Derived.Test.YtgcfplkfclapiaaStill
import Derived.Test.YtgcfplkfclapiaaPackFKnown
import Derived.Deep.RegionHeld3
import Derived.Deep.DeepCutAuto
namespace Go.Proofs.Ytgcfplkfclapiaa
open Go.RowKit Go.Shelf Go.Deep Mpl

/-- the hole of the examples, in memory -/
structure KnSt (w W : World) (g0 g : Nat) : Prop where
  h : Box W g0 25 #[.slice (some ⟨g, 0, none⟩) 2 2]
  s : Box W g 29 shownC
  low : Below w.heap.size w W
  lo : w.heap.size ≤ g0
theorem KnSt.under {w W W' : World} {g0 g : Nat} (h : KnSt w W g0 g) (hb : Below W.heap.size W W') : KnSt w W' g0 g := ⟨h.h.under hb, h.s.under hb, h.low.trans (hb.mono h.low.size), h.lo⟩
theorem box_apart {W : World} {g g' t t' : Nat} {cs cs' : Array Value} (h : Box W g t cs) (h' : Box W g' t' cs') (hne : t ≠ t') : g ≠ g' := fun e => by
  subst e
  unfold Box at h h'
  rw [h] at h'
  injection h' with h'
  injection h' with _ h1
  exact hne h1
theorem far2 {W : World} {g g' t t' : Nat} {cs cs' : Array Value} {a b : Value} (h : Box W g t cs) (h' : Box W g' t' cs') (hne : t ≠ t') : Box ((W.setCell ⟨g', 0, none⟩ a).setCell ⟨g', 1, none⟩ b) g t cs :=
  (h.far (box_apart h h' hne) _).far (box_apart h h' hne) _
theorem rng_putK {W : World} {g : Nat} {x y : Value} (hx : Box W g 34 #[x, y]) (a b : Value) : Box ((W.setCell ⟨g, 0, none⟩ a).setCell ⟨g, 1, none⟩ b) g 34 #[a, b] := by simpa using (hx.set_ 0 a).set_ 1 b
theorem below_putK {B : Nat} {w W : World} {g : Nat} (h : Below B w W) (hg : B ≤ g) (a b : Value) : Below B w ((W.setCell ⟨g, 0, none⟩ a).setCell ⟨g, 1, none⟩ b) := (h.setCell (p := ⟨g, 0, none⟩) hg a).setCell (p := ⟨g, 1, none⟩) hg b
theorem KnSt.put {w W : World} {g0 g gx : Nat} {x y : Value} (h : KnSt w W g0 g) (hx : Box W gx 34 #[x, y]) (hl : w.heap.size ≤ gx) (a b : Value) : KnSt w ((W.setCell ⟨gx, 0, none⟩ a).setCell ⟨gx, 1, none⟩ b) g0 g :=
  ⟨far2 h.h hx (by decide), far2 h.s hx (by decide), below_putK h.low hl a b, h.lo⟩

def twoSlugs : List Slug := [⟨12000, 700000⟩, ⟨10000, 400000⟩]
theorem two_slugs {w : World} {g : Nat} (h : Box w g 39 #[.int .i64 12000, .int .i64 700000, .int .i64 10000, .int .i64 400000]) : Slugs w w.heap.size (some ⟨g, 0, none⟩) twoSlugs := fun _ => ⟨g, 0, rfl, h.lt, fun i hi => by
  rcases (show i = 0 ∨ i = 1 by simp [twoSlugs] at hi; omega) with rfl | rfl
  · exact ⟨h.cell 0, h.cell 1⟩
  · exact ⟨h.cell 2, h.cell 3⟩⟩
theorem two_in : SlugsIn twoSlugs := by
  intro i
  match i with
  | 0 => simp [slg, twoSlugs, SlugIn, inI64]
  | 1 => simp [slg, twoSlugs, SlugIn, inI64]
  | i + 2 => simp [slg, twoSlugs, SlugIn, inI64]
theorem rng_eq {p : Rng × Int} {a b c : Int} (h : p.1.Lo = a ∧ p.1.Hi = b ∧ p.2 = c) : p = (⟨a, b⟩, c) := by
  obtain ⟨⟨x, y⟩, z⟩ := p
  simp_all
theorem known_press2 : press shownHole oneSlug 0 1100000 = (⟨0, 0⟩, 0) := rng_eq (by decide +kernel)
theorem known_press3 : press shownHole twoSlugs 5 0 = (⟨31600005, 31600005⟩, 0) := rng_eq (by decide +kernel)
theorem known_pump0 : (pump shownHole oneSlug ⟨15000, 400000⟩).1.map (fun s => (s.Weight, s.Volume)) = [(15000, 400000), (12000, 700000)] ∧ (pump shownHole oneSlug ⟨15000, 400000⟩).2.1.map (fun s => (s.Weight, s.Volume)) = [(12000, 400000)] ∧ (pump shownHole oneSlug ⟨15000, 400000⟩).2.2 = 0 := by decide +kernel
theorem slugs_of (l : List Slug) : l = (l.map (fun s => (s.Weight, s.Volume))).map (fun p => ⟨p.1, p.2⟩) := by
  rw [List.map_map]
  conv => lhs; rw [← List.map_id l]
  rfl
theorem known_pump : pump shownHole oneSlug ⟨15000, 400000⟩ = ([⟨15000, 400000⟩, ⟨12000, 700000⟩], [⟨12000, 400000⟩], 0) := by
  obtain ⟨h1, h2, h3⟩ := known_pump0
  generalize pump shownHole oneSlug ⟨15000, 400000⟩ = p at *
  obtain ⟨a, b, c⟩ := p
  dsimp only at h1 h2 h3
  rw [slugs_of a, slugs_of b, h1, h2, h3]
  rfl
theorem known_height0 : (heightOf shownHole).map (fun k => (k.At, k.V)) = [(0, 0), (300000, 800), (1100000, 2800)] := by decide +kernel
theorem known_len : (heightOf shownHole).length = 3 := by
  have := congrArg List.length known_height0
  simpa using this
theorem known_kn (i : Nat) (a v : Int) (h : ((heightOf shownHole).map (fun k => (k.At, k.V)))[i]? = some (a, v)) : kn (heightOf shownHole) i = ⟨a, v⟩ := by
  simp only [List.getElem?_map, Option.map_eq_some_iff] at h
  obtain ⟨k, h1, h2⟩ := h
  unfold kn
  rw [h1]
  injection h2 with h3 h4
  simp [← h3, ← h4]
theorem known_kn1 : kn (heightOf shownHole) 1 = ⟨300000, 800⟩ := known_kn 1 _ _ (by rw [known_height0]; rfl)
theorem known_kn2 : kn (heightOf shownHole) 2 = ⟨1100000, 2800⟩ := known_kn 2 _ _ (by rw [known_height0]; rfl)
theorem known_where : whereOf shownHole 0 = 0 ∧ whereOf shownHole 300000 = 1 ∧ whereOf shownHole 1100000 = 1 ∧ whereOf shownHole 1100001 = -1 := by decide +kernel
theorem known_gas : bubble ⟨5000, 1000⟩ = (5242880, true) ∧ free ⟨5000000, 1000⟩ 3145728 = 4997000 ∧ (space ⟨5000000, 1000⟩ 3145728).Lo = 1 ∧ (space ⟨5000000, 1000⟩ 3145728).Hi = 2 := by decide +kernel
theorem known_flow : flows ⟨1000, 800, 300, 50⟩ ⟨100, 10⟩ 2 1 = false := by decide +kernel
theorem known_load : Mpl.load ⟨1000, 800, 300, 50⟩ 100 40000 30 = (4, true) ∧ Mpl.load ⟨1000, 800, 300, 50⟩ 100 9000 30 = (0, false) ∧ Mpl.mixed 12000 26000 4 = 12056 := by decide +kernel

theorem run_neq_rngK (x0 x1 y0 y1 : Int) (w : World) : (binOp .neq 34 (.agg #[.int .i64 x0, .int .i64 x1]) (.agg #[.int .i64 y0, .int .i64 y1])).run Try.prog w = .ok (.bool !(x0 == y0 && x1 == y1)) w := by
  have u3 := Try.underlying2
  have a3 := Try.isAgg2
  have z3 := Try.sizeOf2
  have hS : Try.prog.underlying 34 = some (.struct (Try.prog.fieldsOf 34)) := by kernel_rfl
  have hp : Try.prog.stoodInHeld 34 = false := by kernel_rfl
  rw [run_neq_struct, show (10000 : Nat) = 9999 + 1 from rfl, run_equalIn_agg w 9999 34 _ _ hS hp]
  simp only [Program.fieldsOf, Try.underlying34]
  go_simp
  by_cases h1 : x0 = y0 <;> by_cases h2 : x1 = y1 <;> simp [h1, h2]

/-- what Pump hands back in the examples -/
def PumpedK (w : World) (e : Ending) (w' : World) : Prop :=
  (∃ A1 c1 A2 c2, e = .returned (.tuple #[.slice A1 2 c1, .slice A2 1 c2, .int .i64 0]) ∧ Slugs w' w'.heap.size A1 [⟨15000, 400000⟩, ⟨12000, 700000⟩] ∧ Slugs w' w'.heap.size A2 [⟨12000, 400000⟩]) ∧ Below w.heap.size w w'
theorem pumpedK {w : World} {e : Ending} {w' : World} (h : PumpV w (pump shownHole oneSlug ⟨15000, 400000⟩) e w') : PumpedK w e w' := by
  rw [known_pump] at h
  obtain ⟨⟨A1, c1, A2, c2, h1, h2, h3⟩, h4⟩ := h
  exact ⟨⟨A1, c1, A2, c2, h1, own_slugs h2, own_slugs h3⟩, h4⟩
theorem now_slugs {w : World} {g : Nat} (h : Box w g 39 #[.int .i64 15000, .int .i64 400000, .int .i64 12000, .int .i64 700000]) : Slugs w w.heap.size (some ⟨g, 0, none⟩) [⟨15000, 400000⟩, ⟨12000, 700000⟩] := fun _ => ⟨g, 0, rfl, h.lt, fun i hi => by
  rcases (show i = 0 ∨ i = 1 by simp at hi; omega) with rfl | rfl
  · exact ⟨h.cell 0, h.cell 1⟩
  · exact ⟨h.cell 2, h.cell 3⟩⟩
theorem out_slugs {w : World} {g : Nat} (h : Box w g 39 #[.int .i64 12000, .int .i64 400000]) : Slugs w w.heap.size (some ⟨g, 0, none⟩) [⟨12000, 400000⟩] := fun _ => ⟨g, 0, rfl, h.lt, fun i hi => by
  obtain rfl : i = 0 := by simp at hi; omega
  exact ⟨h.cell 0, h.cell 1⟩⟩
theorem seg0_cells {w : World} {g : Nat} (h : Box w g 29 shownC) : w.cell? ⟨g, 0, none⟩ = some (.int .i64 1000) ∧ w.cell? ⟨g, 1, none⟩ = some (.int .i64 800) ∧ w.cell? ⟨g, 2, none⟩ = some (.int .i64 300) ∧ w.cell? ⟨g, 3, none⟩ = some (.int .i64 50) := ⟨h.cell 0, h.cell 1, h.cell 2, h.cell 3⟩
theorem gas_cellsK {W : World} {g : Nat} {a b : Value} (h : Box W g 85 #[a, b]) : W.cell? ⟨g, 0, none⟩ = some a ∧ W.cell? ⟨g, 1, none⟩ = some b := ⟨h.cell 0, h.cell 1⟩

set_option maxHeartbeats 16000000 in
set_option maxRecDepth 100000 in
theorem walk_FluidKnown (w : World) :
    Calls Try.prog 17 #[] w fun e w' => e = .returned (.bool true) ∧ Below w.heap.size w w' := by
  have hnk := run_neq_knot
  go_enter Try.func17, Try.ntmps17
  go_wp2_with fail
  refine (law03_shown _).mono ?_
  rintro e w1 ⟨⟨g, rfl, h1⟩, hb1⟩
  obtain ⟨WC, hWC⟩ : ∃ WC, w1.alloc (.cells #[.slice (some ⟨g, 0, none⟩) 2 2] 25) = WC := ⟨_, rfl⟩
  obtain ⟨g0, hg0⟩ : ∃ g0, w1.heap.size = g0 := ⟨_, rfl⟩
  have KS := Lib.hid (show KnSt w WC g0 g from ⟨by rw [← hWC, ← hg0]; exact Box.new _ _ _ rfl, by rw [← hWC]; exact h1.alloc _, by rw [← hWC]; exact hb1.alloc hb1.size _, by rw [← hg0]; exact hb1.size⟩)
  have HWC := Lib.hid hWC
  have HG0 := Lib.hid hg0
  clear h1 hb1 hWC hg0
  go_upto_region 2 with fail
  rw [HWC.out, HG0.out]
  clear HWC HG0 w1
  have q0 := hole_cellK KS.out.h
  have HHE := Lib.hid (fun W (hW : KnSt w W g0 g) => fluid_Height _ shownHole W (shown_hole hW.s) shown_in (by decide))
  have HCK := Lib.hid (fun W (hW : KnSt w W g0 g) => (by have := fluid_CheckHole _ shownHole W (shown_hole hW.s) shown_in (by decide); rw [shown_check] at this; exact this :
    Calls Try.prog 27 #[.agg #[.slice (some ⟨g, 0, none⟩) 2 2]] W fun e w' => e = .returned (.int .i64 0) ∧ Below W.heap.size W w'))
  have HWH := Lib.hid (fun u W (hW : KnSt w W g0 g) => fluid_Where _ shownHole u W (shown_hole hW.s) shown_in (by decide))
  go_wp2_with fail
  refine (HHE.out _ KS.out).mono ?_
  rintro e w2 ⟨⟨vl, rfl, A, c, rfl, hk⟩, hb2⟩
  rw [known_len]
  have hf : (Instr.field 67 (.agg #[.slice A 3 c]) 0).run Try.prog w2 = .ok (.slice A 3 c) w2 := by kernel_rfl
  obtain ⟨b, off, rfl, hbl, hkc⟩ := Knots.out hk (by rw [known_len]; omega)
  obtain ⟨c0, c1⟩ := hkc 1 (by rw [known_len]; omega)
  obtain ⟨c2, c3⟩ := hkc 2 (by rw [known_len]; omega)
  rw [known_kn1] at c0 c1
  rw [known_kn2] at c2 c3
  have HC := Lib.hid (And.intro (And.intro c0 c1) (And.intro c2 c3))
  replace KS := Lib.hid (KS.out.under hb2)
  clear hkc hk hb2 c0 c1 c2 c3 q0 HHE
  have q0 := hole_cellK KS.out.h
  go_wp2_with fail
  clear hf
  refine (HCK.out _ KS.out).mono ?_
  rintro e w3 ⟨rfl, hb3⟩
  replace KS := Lib.hid (KS.out.under hb3)
  have c0 := oldCell hb3 hbl HC.out.1.1
  have c1 := oldCell hb3 hbl HC.out.1.2
  have c2 := oldCell hb3 hbl HC.out.2.1
  have c3 := oldCell hb3 hbl HC.out.2.2
  have hbl3 : b < w3.heap.size := Nat.lt_of_lt_of_le hbl hb3.size
  clear hb3 q0 HCK HC hbl
  have q0 := hole_cellK KS.out.h
  have W1 := Lib.hid (HWH.out 0)
  rw [known_where.1] at W1
  go_wp2_with fail
  refine (W1.out _ KS.out).mono ?_
  rintro e v1 ⟨rfl, hb1⟩
  replace KS := Lib.hid (KS.out.under hb1)
  clear hb1 q0
  have q0 := hole_cellK KS.out.h
  have W2 := Lib.hid (HWH.out 300000)
  rw [known_where.2.1] at W2
  go_wp2_with fail
  refine (W2.out _ KS.out).mono ?_
  rintro e v2 ⟨rfl, hb2⟩
  replace KS := Lib.hid (KS.out.under hb2)
  clear hb2 q0
  have q0 := hole_cellK KS.out.h
  have W3 := Lib.hid (HWH.out 1100000)
  rw [known_where.2.2.1] at W3
  go_wp2_with fail
  refine (W3.out _ KS.out).mono ?_
  rintro e v3 ⟨rfl, hb3⟩
  replace KS := Lib.hid (KS.out.under hb3)
  clear hb3 q0
  have q0 := hole_cellK KS.out.h
  have W4 := Lib.hid (HWH.out 1100001)
  rw [known_where.2.2.2] at W4
  go_wp2_with fail
  refine (W4.out _ KS.out).mono ?_
  rintro e v4 ⟨rfl, hb4⟩
  replace KS := Lib.hid (KS.out.under hb4)
  clear hb4 q0
  have q0 := hole_cellK KS.out.h
  clear W1 W2 W3 W4 HWH c0 c1 c2 c3 hbl3 hnk
  obtain ⟨WC, hWC⟩ : ∃ WC, v4 = WC := ⟨_, rfl⟩
  rw [hWC] at KS
  have HPR1 := Lib.hid (fun W g1 (hW : KnSt w W g0 g) (hs : Box W g1 39 #[.int .i64 12000, .int .i64 1100000]) => (by have := fluid_Press _ shownHole oneSlug (some ⟨g1, 0, none⟩) 1 0 0 W (shown_hole hW.s) shown_in (by decide) (one_slugs hs) one_in (by decide) (by decide); rw [shown_press1] at this; exact this :
    Calls Try.prog 21 #[.agg #[.slice (some ⟨g, 0, none⟩) 2 2], .slice (some ⟨g1, 0, none⟩) 1 1, .int .i64 0, .int .i64 0] W fun e w' => e = .returned (.tuple #[.agg #[.int .i64 33600000, .int .i64 33600000], .int .i64 0]) ∧ Below W.heap.size W w'))
  have HPR2 := Lib.hid (fun W g1 (hW : KnSt w W g0 g) (hs : Box W g1 39 #[.int .i64 12000, .int .i64 1100000]) => (by have := fluid_Press _ shownHole oneSlug (some ⟨g1, 0, none⟩) 1 0 1100000 W (shown_hole hW.s) shown_in (by decide) (one_slugs hs) one_in (by decide) (by decide); rw [known_press2] at this; exact this :
    Calls Try.prog 21 #[.agg #[.slice (some ⟨g, 0, none⟩) 2 2], .slice (some ⟨g1, 0, none⟩) 1 1, .int .i64 0, .int .i64 1100000] W fun e w' => e = .returned (.tuple #[.agg #[.int .i64 0, .int .i64 0], .int .i64 0]) ∧ Below W.heap.size W w'))
  have HPR3 := Lib.hid (fun W g1 (hW : KnSt w W g0 g) (hs : Box W g1 39 #[.int .i64 12000, .int .i64 700000, .int .i64 10000, .int .i64 400000]) => (by have := fluid_Press _ shownHole twoSlugs (some ⟨g1, 0, none⟩) 2 5 0 W (shown_hole hW.s) shown_in (by decide) (two_slugs hs) two_in (by decide) (by decide); rw [known_press3] at this; exact this :
    Calls Try.prog 21 #[.agg #[.slice (some ⟨g, 0, none⟩) 2 2], .slice (some ⟨g1, 0, none⟩) 2 2, .int .i64 5, .int .i64 0] W fun e w' => e = .returned (.tuple #[.agg #[.int .i64 31600005, .int .i64 31600005], .int .i64 0]) ∧ Below W.heap.size W w'))
  have HEQ := Lib.hid (fun W g1 (hW : KnSt w W g0 g) (hs : Box W g1 39 #[.int .i64 12000, .int .i64 1100000]) => law03_equiv (some ⟨g, 0, none⟩) 2 (some ⟨g1, 0, none⟩) 1 W (shown_hole hW.s) (one_slugs hs) (by omega) (by decide))
  have HPU := Lib.hid (fun W g1 (hW : KnSt w W g0 g) (hs : Box W g1 39 #[.int .i64 12000, .int .i64 1100000]) => (fluid_Pump _ shownHole oneSlug ⟨15000, 400000⟩ (some ⟨g1, 0, none⟩) 1 W (shown_hole hW.s) shown_in (by decide) (one_slugs hs) one_in (by decide)).mono fun e w' h => pumpedK h)
  have hnr := run_neq_rngK
  go_upto_region 5 with fail
  clear hWC q0
  have q0 := hole_cellK KS.out.h
  have hlw := KS.out.low.size
  go_cut [3, 4] (fun s3 s4 wx => ∃ gx : Nat, s3 = .pointer (some ⟨gx, 0, none⟩) ∧ s4 = .int .i64 0 ∧ Hid (KnSt w wx g0 g) ∧ Hid (Box wx gx 34 #[.int .i64 33600000, .int .i64 33600000]) ∧ Hid (Below WC.heap.size WC wx))
  case first =>
    have KA : Hid (KnSt w WC.drew g0 g) := KS.out.under (Below.refl _ _).drew
    have LA : Hid (Below WC.heap.size WC WC.drew) := (Below.refl _ _).drew
    refine AnyBut.begin (S := fun w' => w'.cell? ⟨g0, 0, none⟩ = some (.slice (some ⟨g, 0, none⟩) 2 2)) (z := 100) mixed ?_
    have S0 := hole_cellK KA.out.h
    refine AnyBut.takeD 0 67 (v := .agg #[.slice (some ⟨g, 0, none⟩) 2 2]) rfl rfl (by decide +kernel) (fun _ _ _ h => h) S0 (Or.inl ⟨by rfl, fun w' hw' => by go_simp⟩) ?_
    simp only [List.setIfInBounds_toArray, List.set_cons_zero, List.set_cons_succ]
    refine AnyBut.two 1 6 (by decide +kernel) rfl rfl rfl rfl (fun K hK => ?_) (fun K hK => ?_)
    · skip
      go_simp
      refine (law03_one _).mono ?_
      rintro e w7 ⟨⟨g7, rfl, h7⟩, hb7⟩
      have K7 : Hid (KnSt w w7 g0 g) := KA.out.under hb7
      have L7 : Hid (Below WC.heap.size WC w7) := LA.out.trans (hb7.mono LA.out.size)
      have O7 := Lib.hid h7
      have HB7 := Lib.hid hb7
      refine hK _ _ (fun _ => hole_cellK K7.out.h) ?_
      clear hK h7 hb7
      refine AnyBut.two 2 6 (by decide +kernel) rfl rfl rfl rfl (fun K hK => ?_) (fun K hK => ?_)
      · skip
        go_simp
        refine (HPR1.out _ g7 K7.out O7.out).mono ?_
        rintro e w8 ⟨rfl, hb8⟩
        have K8 : Hid (KnSt w w8 g0 g) := KnSt.under K7.out hb8
        have L8 : Hid (Below WC.heap.size WC w8) := Below.trans L7.out (hb8.mono (Below.size L7.out))
        have HB8 := Lib.hid hb8
        refine hK _ _ (fun _ => hole_cellK K8.out.h) ?_
        clear hK hb8
        refine AnyBut.takeD 3 66 (v := .tuple #[.agg #[.int .i64 33600000, .int .i64 33600000], .int .i64 0]) rfl rfl (by decide +kernel) (fun _ _ _ h => h) (hole_cellK K8.out.h) (Or.inl ⟨by rfl, fun w' hw' => by go_simp⟩) ?_
        simp only [List.setIfInBounds_toArray, List.set_cons_zero, List.set_cons_succ]
        refine AnyBut.takeD 4 70 (v := .agg #[.int .i64 33600000, .int .i64 33600000]) rfl rfl (by decide +kernel) (fun _ _ _ h => h) (hole_cellK K8.out.h) (Or.inl ⟨by rfl, fun w' hw' => by go_simp⟩) ?_
        simp only [List.setIfInBounds_toArray, List.set_cons_zero, List.set_cons_succ]
        refine AnyBut.takeD 5 71 (v := .int .i64 0) rfl rfl (by decide +kernel) (fun _ _ _ h => h) (hole_cellK K8.out.h) (Or.inl ⟨by rfl, fun w' hw' => by go_simp⟩) ?_
        simp only [List.setIfInBounds_toArray, List.set_cons_zero, List.set_cons_succ]
        refine AnyBut.only (i := 6) (by decide +kernel) rfl rfl (fun K hK => ?_)
        go_simp
        have KN : Hid (KnSt w (w8.alloc (.cells #[.int .i64 0, .int .i64 0] 34)) g0 g) := K8.out.under ((Below.refl _ _).alloc (Nat.le_refl _) _)
        refine hK _ _ (fun _ => hole_cellK KN.out.h) ?_
        clear hK
        have KR : Hid (KnSt w (w8.alloc (.cells #[.int .i64 33600000, .int .i64 33600000] 34)) g0 g) := K8.out.under ((Below.refl _ _).alloc (Nat.le_refl _) _)
        have RR := Lib.hid (Box.new w8 34 #[.int .i64 33600000, .int .i64 33600000] rfl)
        refine AnyBut.only (i := 7) (by decide +kernel) rfl rfl (fun K hK => ?_)
        go_simp
        refine hK _ _ (fun _ => hole_cellK KR.out.h) ?_
        clear hK
        refine AnyBut.only (i := 8) (by decide +kernel) rfl rfl (fun K hK => ?_)
        go_simp
        refine hK _ _ (fun _ => hole_cellK KR.out.h) ?_
        clear hK
        refine AnyBut.done (by decide +kernel) ?_
        go_wp2_with fail
        go_meet
        exact ⟨_, rfl, rfl, KR, RR, L8.out.alloc L8.out.size _⟩
      · skip
        go_simp
        have KN : Hid (KnSt w (w7.alloc (.cells #[.int .i64 0, .int .i64 0] 34)) g0 g) := K7.out.under ((Below.refl _ _).alloc (Nat.le_refl _) _)
        have LN : Hid (Below WC.heap.size WC (w7.alloc (.cells #[.int .i64 0, .int .i64 0] 34))) := L7.out.alloc L7.out.size _
        refine hK _ _ (fun _ => hole_cellK KN.out.h) ?_
        clear hK
        refine AnyBut.only (i := 2) (by decide +kernel) rfl rfl (fun K hK => ?_)
        go_simp
        refine (HPR1.out _ g7 KN.out (O7.out.alloc _)).mono ?_
        rintro e w8 ⟨rfl, hb8⟩
        have K8 : Hid (KnSt w w8 g0 g) := KnSt.under KN.out hb8
        have L8 : Hid (Below WC.heap.size WC w8) := Below.trans LN.out (hb8.mono (Below.size LN.out))
        have HB8 := Lib.hid hb8
        refine hK _ _ (fun _ => hole_cellK K8.out.h) ?_
        clear hK hb8
        have RR : Hid (Box w8 w7.heap.size 34 #[.int .i64 0, .int .i64 0]) := (Box.new w7 34 #[.int .i64 0, .int .i64 0] rfl).under HB8.out
        have hgx : WC.heap.size ≤ w7.heap.size := L7.out.size
        have SS := hole_cellK K8.out.h
        have SP := hole_cellK (far2 (a := .int .i64 33600000) (b := .int .i64 33600000) K8.out.h RR.out (by decide))
        refine AnyBut.takeD 3 66 (v := .tuple #[.agg #[.int .i64 33600000, .int .i64 33600000], .int .i64 0]) rfl rfl (by decide +kernel) (fun _ _ _ h => h) SS (Or.inl ⟨by rfl, fun w' hw' => by go_simp⟩) ?_
        simp only [List.setIfInBounds_toArray, List.set_cons_zero, List.set_cons_succ]
        refine AnyBut.takeD 4 70 (v := .agg #[.int .i64 33600000, .int .i64 33600000]) rfl rfl (by decide +kernel) (fun _ _ _ h => h) SS (Or.inl ⟨by rfl, fun w' hw' => by go_simp⟩) ?_
        simp only [List.setIfInBounds_toArray, List.set_cons_zero, List.set_cons_succ]
        refine AnyBut.takeD 5 71 (v := .int .i64 0) rfl rfl (by decide +kernel) (fun _ _ _ h => h) SS (Or.inl ⟨by rfl, fun w' hw' => by go_simp⟩) ?_
        simp only [List.setIfInBounds_toArray, List.set_cons_zero, List.set_cons_succ]
        obtain ⟨y0, y1⟩ := rng_cellsK RR.out
        have f0 := RR.out.frozen 0
        have f1 := RR.out.frozen 1
        refine AnyBut.only (i := 7) (by decide +kernel) rfl rfl (fun K hK => ?_)
        go_simp
        refine hK _ _ (fun _ => SP) ?_
        clear hK
        refine AnyBut.only (i := 8) (by decide +kernel) rfl rfl (fun K hK => ?_)
        go_simp
        refine hK _ _ (fun _ => SP) ?_
        clear hK
        refine AnyBut.done (by decide +kernel) ?_
        go_wp2_with fail
        go_meet
        exact ⟨_, rfl, rfl, K8.out.put RR.out (Nat.le_trans hlw hgx) _ _, rng_putK RR.out _ _, below_putK L8.out hgx _ _⟩
    · skip
      go_simp
      have KN : Hid (KnSt w (WC.drew.alloc (.cells #[.int .i64 0, .int .i64 0] 34)) g0 g) := KA.out.under ((Below.refl _ _).alloc (Nat.le_refl _) _)
      have LN : Hid (Below WC.heap.size WC (WC.drew.alloc (.cells #[.int .i64 0, .int .i64 0] 34))) := LA.out.alloc LA.out.size _
      refine hK _ _ (fun _ => hole_cellK KN.out.h) ?_
      clear hK
      refine AnyBut.only (i := 1) (by decide +kernel) rfl rfl (fun K hK => ?_)
      go_simp
      refine (law03_one _).mono ?_
      rintro e w7 ⟨⟨g7, rfl, h7⟩, hb7⟩
      have K7 : Hid (KnSt w w7 g0 g) := KN.out.under hb7
      have L7 : Hid (Below WC.heap.size WC w7) := LN.out.trans (hb7.mono LN.out.size)
      have O7 := Lib.hid h7
      have HB7 := Lib.hid hb7
      refine hK _ _ (fun _ => hole_cellK K7.out.h) ?_
      clear hK h7 hb7
      refine AnyBut.only (i := 2) (by decide +kernel) rfl rfl (fun K hK => ?_)
      go_simp
      refine (HPR1.out _ g7 K7.out O7.out).mono ?_
      rintro e w8 ⟨rfl, hb8⟩
      have K8 : Hid (KnSt w w8 g0 g) := KnSt.under K7.out hb8
      have L8 : Hid (Below WC.heap.size WC w8) := Below.trans L7.out (hb8.mono (Below.size L7.out))
      have HB8 := Lib.hid hb8
      refine hK _ _ (fun _ => hole_cellK K8.out.h) ?_
      clear hK hb8
      have RR : Hid (Box w8 WC.heap.size 34 #[.int .i64 0, .int .i64 0]) := ((Box.new WC.drew 34 #[.int .i64 0, .int .i64 0] rfl).under HB7.out).under HB8.out
      have hgx : WC.heap.size ≤ WC.heap.size := LA.out.size
      have SS := hole_cellK K8.out.h
      have SP := hole_cellK (far2 (a := .int .i64 33600000) (b := .int .i64 33600000) K8.out.h RR.out (by decide))
      refine AnyBut.takeD 3 66 (v := .tuple #[.agg #[.int .i64 33600000, .int .i64 33600000], .int .i64 0]) rfl rfl (by decide +kernel) (fun _ _ _ h => h) SS (Or.inl ⟨by rfl, fun w' hw' => by go_simp⟩) ?_
      simp only [List.setIfInBounds_toArray, List.set_cons_zero, List.set_cons_succ]
      refine AnyBut.takeD 4 70 (v := .agg #[.int .i64 33600000, .int .i64 33600000]) rfl rfl (by decide +kernel) (fun _ _ _ h => h) SS (Or.inl ⟨by rfl, fun w' hw' => by go_simp⟩) ?_
      simp only [List.setIfInBounds_toArray, List.set_cons_zero, List.set_cons_succ]
      refine AnyBut.takeD 5 71 (v := .int .i64 0) rfl rfl (by decide +kernel) (fun _ _ _ h => h) SS (Or.inl ⟨by rfl, fun w' hw' => by go_simp⟩) ?_
      simp only [List.setIfInBounds_toArray, List.set_cons_zero, List.set_cons_succ]
      obtain ⟨y0, y1⟩ := rng_cellsK RR.out
      have f0 := RR.out.frozen 0
      have f1 := RR.out.frozen 1
      refine AnyBut.only (i := 7) (by decide +kernel) rfl rfl (fun K hK => ?_)
      go_simp
      refine hK _ _ (fun _ => SP) ?_
      clear hK
      refine AnyBut.only (i := 8) (by decide +kernel) rfl rfl (fun K hK => ?_)
      go_simp
      refine hK _ _ (fun _ => SP) ?_
      clear hK
      refine AnyBut.done (by decide +kernel) ?_
      go_wp2_with fail
      go_meet
      exact ⟨_, rfl, rfl, K8.out.put RR.out (Nat.le_trans hlw hgx) _ _, rng_putK RR.out _ _, below_putK L8.out hgx _ _⟩
  case rest =>
  obtain ⟨ga, rfl, rfl, KS1, RA, LA1⟩ := hcut
  clear KS HPR1 LA1
  have KS := Lib.hid KS1.out
  clear KS1 q0 hlw
  go_upto_region 6 with fail
  have q0 := hole_cellK KS.out.h
  have hlw := KS.out.low.size
  go_cut [5, 6] (fun s5 s6 wx => ∃ gx : Nat, s5 = .pointer (some ⟨gx, 0, none⟩) ∧ s6 = .int .i64 0 ∧ Hid (KnSt w wx g0 g) ∧ Hid (Box wx gx 34 #[.int .i64 0, .int .i64 0]) ∧ Hid (Below wc.heap.size wc wx))
  case first =>
    have KA : Hid (KnSt w wc.drew g0 g) := KS.out.under (Below.refl _ _).drew
    have LA : Hid (Below wc.heap.size wc wc.drew) := (Below.refl _ _).drew
    refine AnyBut.begin (S := fun w' => w'.cell? ⟨g0, 0, none⟩ = some (.slice (some ⟨g, 0, none⟩) 2 2)) (z := 100) mixed ?_
    have S0 := hole_cellK KA.out.h
    refine AnyBut.takeD 0 73 (v := .agg #[.slice (some ⟨g, 0, none⟩) 2 2]) rfl rfl (by decide +kernel) (fun _ _ _ h => h) S0 (Or.inl ⟨by rfl, fun w' hw' => by go_simp⟩) ?_
    simp only [List.setIfInBounds_toArray, List.set_cons_zero, List.set_cons_succ]
    refine AnyBut.two 1 6 (by decide +kernel) rfl rfl rfl rfl (fun K hK => ?_) (fun K hK => ?_)
    · skip
      go_simp
      refine (law03_one _).mono ?_
      rintro e w7 ⟨⟨g7, rfl, h7⟩, hb7⟩
      have K7 : Hid (KnSt w w7 g0 g) := KA.out.under hb7
      have L7 : Hid (Below wc.heap.size wc w7) := LA.out.trans (hb7.mono LA.out.size)
      have O7 := Lib.hid h7
      have HB7 := Lib.hid hb7
      refine hK _ _ (fun _ => hole_cellK K7.out.h) ?_
      clear hK h7 hb7
      refine AnyBut.two 2 6 (by decide +kernel) rfl rfl rfl rfl (fun K hK => ?_) (fun K hK => ?_)
      · skip
        go_simp
        refine (HPR2.out _ g7 K7.out O7.out).mono ?_
        rintro e w8 ⟨rfl, hb8⟩
        have K8 : Hid (KnSt w w8 g0 g) := KnSt.under K7.out hb8
        have L8 : Hid (Below wc.heap.size wc w8) := Below.trans L7.out (hb8.mono (Below.size L7.out))
        have HB8 := Lib.hid hb8
        refine hK _ _ (fun _ => hole_cellK K8.out.h) ?_
        clear hK hb8
        refine AnyBut.takeD 3 72 (v := .tuple #[.agg #[.int .i64 0, .int .i64 0], .int .i64 0]) rfl rfl (by decide +kernel) (fun _ _ _ h => h) (hole_cellK K8.out.h) (Or.inl ⟨by rfl, fun w' hw' => by go_simp⟩) ?_
        simp only [List.setIfInBounds_toArray, List.set_cons_zero, List.set_cons_succ]
        refine AnyBut.takeD 4 76 (v := .agg #[.int .i64 0, .int .i64 0]) rfl rfl (by decide +kernel) (fun _ _ _ h => h) (hole_cellK K8.out.h) (Or.inl ⟨by rfl, fun w' hw' => by go_simp⟩) ?_
        simp only [List.setIfInBounds_toArray, List.set_cons_zero, List.set_cons_succ]
        refine AnyBut.takeD 5 77 (v := .int .i64 0) rfl rfl (by decide +kernel) (fun _ _ _ h => h) (hole_cellK K8.out.h) (Or.inl ⟨by rfl, fun w' hw' => by go_simp⟩) ?_
        simp only [List.setIfInBounds_toArray, List.set_cons_zero, List.set_cons_succ]
        refine AnyBut.only (i := 6) (by decide +kernel) rfl rfl (fun K hK => ?_)
        go_simp
        have KN : Hid (KnSt w (w8.alloc (.cells #[.int .i64 0, .int .i64 0] 34)) g0 g) := K8.out.under ((Below.refl _ _).alloc (Nat.le_refl _) _)
        refine hK _ _ (fun _ => hole_cellK KN.out.h) ?_
        clear hK
        have KR : Hid (KnSt w (w8.alloc (.cells #[.int .i64 0, .int .i64 0] 34)) g0 g) := K8.out.under ((Below.refl _ _).alloc (Nat.le_refl _) _)
        have RR := Lib.hid (Box.new w8 34 #[.int .i64 0, .int .i64 0] rfl)
        refine AnyBut.only (i := 7) (by decide +kernel) rfl rfl (fun K hK => ?_)
        go_simp
        refine hK _ _ (fun _ => hole_cellK KR.out.h) ?_
        clear hK
        refine AnyBut.only (i := 8) (by decide +kernel) rfl rfl (fun K hK => ?_)
        go_simp
        refine hK _ _ (fun _ => hole_cellK KR.out.h) ?_
        clear hK
        refine AnyBut.done (by decide +kernel) ?_
        go_wp2_with fail
        go_meet
        exact ⟨_, rfl, rfl, KR, RR, L8.out.alloc L8.out.size _⟩
      · skip
        go_simp
        have KN : Hid (KnSt w (w7.alloc (.cells #[.int .i64 0, .int .i64 0] 34)) g0 g) := K7.out.under ((Below.refl _ _).alloc (Nat.le_refl _) _)
        have LN : Hid (Below wc.heap.size wc (w7.alloc (.cells #[.int .i64 0, .int .i64 0] 34))) := L7.out.alloc L7.out.size _
        refine hK _ _ (fun _ => hole_cellK KN.out.h) ?_
        clear hK
        refine AnyBut.only (i := 2) (by decide +kernel) rfl rfl (fun K hK => ?_)
        go_simp
        refine (HPR2.out _ g7 KN.out (O7.out.alloc _)).mono ?_
        rintro e w8 ⟨rfl, hb8⟩
        have K8 : Hid (KnSt w w8 g0 g) := KnSt.under KN.out hb8
        have L8 : Hid (Below wc.heap.size wc w8) := Below.trans LN.out (hb8.mono (Below.size LN.out))
        have HB8 := Lib.hid hb8
        refine hK _ _ (fun _ => hole_cellK K8.out.h) ?_
        clear hK hb8
        have RR : Hid (Box w8 w7.heap.size 34 #[.int .i64 0, .int .i64 0]) := (Box.new w7 34 #[.int .i64 0, .int .i64 0] rfl).under HB8.out
        have hgx : wc.heap.size ≤ w7.heap.size := L7.out.size
        have SS := hole_cellK K8.out.h
        have SP := hole_cellK (far2 (a := .int .i64 0) (b := .int .i64 0) K8.out.h RR.out (by decide))
        refine AnyBut.takeD 3 72 (v := .tuple #[.agg #[.int .i64 0, .int .i64 0], .int .i64 0]) rfl rfl (by decide +kernel) (fun _ _ _ h => h) SS (Or.inl ⟨by rfl, fun w' hw' => by go_simp⟩) ?_
        simp only [List.setIfInBounds_toArray, List.set_cons_zero, List.set_cons_succ]
        refine AnyBut.takeD 4 76 (v := .agg #[.int .i64 0, .int .i64 0]) rfl rfl (by decide +kernel) (fun _ _ _ h => h) SS (Or.inl ⟨by rfl, fun w' hw' => by go_simp⟩) ?_
        simp only [List.setIfInBounds_toArray, List.set_cons_zero, List.set_cons_succ]
        refine AnyBut.takeD 5 77 (v := .int .i64 0) rfl rfl (by decide +kernel) (fun _ _ _ h => h) SS (Or.inl ⟨by rfl, fun w' hw' => by go_simp⟩) ?_
        simp only [List.setIfInBounds_toArray, List.set_cons_zero, List.set_cons_succ]
        obtain ⟨y0, y1⟩ := rng_cellsK RR.out
        have f0 := RR.out.frozen 0
        have f1 := RR.out.frozen 1
        refine AnyBut.only (i := 7) (by decide +kernel) rfl rfl (fun K hK => ?_)
        go_simp
        refine hK _ _ (fun _ => SP) ?_
        clear hK
        refine AnyBut.only (i := 8) (by decide +kernel) rfl rfl (fun K hK => ?_)
        go_simp
        refine hK _ _ (fun _ => SP) ?_
        clear hK
        refine AnyBut.done (by decide +kernel) ?_
        go_wp2_with fail
        go_meet
        exact ⟨_, rfl, rfl, K8.out.put RR.out (Nat.le_trans hlw hgx) _ _, rng_putK RR.out _ _, below_putK L8.out hgx _ _⟩
    · skip
      go_simp
      have KN : Hid (KnSt w (wc.drew.alloc (.cells #[.int .i64 0, .int .i64 0] 34)) g0 g) := KA.out.under ((Below.refl _ _).alloc (Nat.le_refl _) _)
      have LN : Hid (Below wc.heap.size wc (wc.drew.alloc (.cells #[.int .i64 0, .int .i64 0] 34))) := LA.out.alloc LA.out.size _
      refine hK _ _ (fun _ => hole_cellK KN.out.h) ?_
      clear hK
      refine AnyBut.only (i := 1) (by decide +kernel) rfl rfl (fun K hK => ?_)
      go_simp
      refine (law03_one _).mono ?_
      rintro e w7 ⟨⟨g7, rfl, h7⟩, hb7⟩
      have K7 : Hid (KnSt w w7 g0 g) := KN.out.under hb7
      have L7 : Hid (Below wc.heap.size wc w7) := LN.out.trans (hb7.mono LN.out.size)
      have O7 := Lib.hid h7
      have HB7 := Lib.hid hb7
      refine hK _ _ (fun _ => hole_cellK K7.out.h) ?_
      clear hK h7 hb7
      refine AnyBut.only (i := 2) (by decide +kernel) rfl rfl (fun K hK => ?_)
      go_simp
      refine (HPR2.out _ g7 K7.out O7.out).mono ?_
      rintro e w8 ⟨rfl, hb8⟩
      have K8 : Hid (KnSt w w8 g0 g) := KnSt.under K7.out hb8
      have L8 : Hid (Below wc.heap.size wc w8) := Below.trans L7.out (hb8.mono (Below.size L7.out))
      have HB8 := Lib.hid hb8
      refine hK _ _ (fun _ => hole_cellK K8.out.h) ?_
      clear hK hb8
      have RR : Hid (Box w8 wc.heap.size 34 #[.int .i64 0, .int .i64 0]) := ((Box.new wc.drew 34 #[.int .i64 0, .int .i64 0] rfl).under HB7.out).under HB8.out
      have hgx : wc.heap.size ≤ wc.heap.size := LA.out.size
      have SS := hole_cellK K8.out.h
      have SP := hole_cellK (far2 (a := .int .i64 0) (b := .int .i64 0) K8.out.h RR.out (by decide))
      refine AnyBut.takeD 3 72 (v := .tuple #[.agg #[.int .i64 0, .int .i64 0], .int .i64 0]) rfl rfl (by decide +kernel) (fun _ _ _ h => h) SS (Or.inl ⟨by rfl, fun w' hw' => by go_simp⟩) ?_
      simp only [List.setIfInBounds_toArray, List.set_cons_zero, List.set_cons_succ]
      refine AnyBut.takeD 4 76 (v := .agg #[.int .i64 0, .int .i64 0]) rfl rfl (by decide +kernel) (fun _ _ _ h => h) SS (Or.inl ⟨by rfl, fun w' hw' => by go_simp⟩) ?_
      simp only [List.setIfInBounds_toArray, List.set_cons_zero, List.set_cons_succ]
      refine AnyBut.takeD 5 77 (v := .int .i64 0) rfl rfl (by decide +kernel) (fun _ _ _ h => h) SS (Or.inl ⟨by rfl, fun w' hw' => by go_simp⟩) ?_
      simp only [List.setIfInBounds_toArray, List.set_cons_zero, List.set_cons_succ]
      obtain ⟨y0, y1⟩ := rng_cellsK RR.out
      have f0 := RR.out.frozen 0
      have f1 := RR.out.frozen 1
      refine AnyBut.only (i := 7) (by decide +kernel) rfl rfl (fun K hK => ?_)
      go_simp
      refine hK _ _ (fun _ => SP) ?_
      clear hK
      refine AnyBut.only (i := 8) (by decide +kernel) rfl rfl (fun K hK => ?_)
      go_simp
      refine hK _ _ (fun _ => SP) ?_
      clear hK
      refine AnyBut.done (by decide +kernel) ?_
      go_wp2_with fail
      go_meet
      exact ⟨_, rfl, rfl, K8.out.put RR.out (Nat.le_trans hlw hgx) _ _, rng_putK RR.out _ _, below_putK L8.out hgx _ _⟩
  case rest =>
  obtain ⟨gb, rfl, rfl, KS1, RB, LA1⟩ := hcut
  replace RA := Lib.hid (RA.out.under LA1.out)
  clear KS HPR2 LA1
  have KS := Lib.hid KS1.out
  clear KS1 q0 hlw
  have q0 := hole_cellK KS.out.h
  obtain ⟨wp, hwp⟩ : ∃ wp, wc.alloc (.cells #[.int .i64 12000, .int .i64 700000, .int .i64 10000, .int .i64 400000] 39) = wp := ⟨_, rfl⟩
  have hbp : Below wc.heap.size wc wp := by rw [← hwp]; exact (Below.refl _ _).alloc (Nat.le_refl _) _
  have BP := Lib.hid (show Box wp wc.heap.size 39 #[.int .i64 12000, .int .i64 700000, .int .i64 10000, .int .i64 400000] by rw [← hwp]; exact Box.new _ _ _ rfl)
  replace KS := Lib.hid (KS.out.under hbp)
  replace RA := Lib.hid (RA.out.under hbp)
  replace RB := Lib.hid (RB.out.under hbp)
  have HWP := Lib.hid hwp
  clear hwp hbp
  go_wp2_with fail
  rw [HWP.out]
  refine (HPR3.out _ _ KS.out BP.out).mono ?_
  rintro e w8 ⟨rfl, hb8⟩
  obtain ⟨w9, hw9⟩ : ∃ w9, w8.alloc (.cells #[.int .i64 31600005, .int .i64 31600005] 34) = w9 := ⟨_, rfl⟩
  have hb9 : Below w8.heap.size w8 w9 := by rw [← hw9]; exact (Below.refl _ _).alloc (Nat.le_refl _) _
  have RC := Lib.hid (show Box w9 w8.heap.size 34 #[.int .i64 31600005, .int .i64 31600005] by rw [← hw9]; exact Box.new _ _ _ rfl)
  replace KS := Lib.hid ((KS.out.under hb8).under hb9)
  replace RA := Lib.hid ((RA.out.under hb8).under hb9)
  replace RB := Lib.hid ((RB.out.under hb8).under hb9)
  have HW9 := Lib.hid hw9
  clear hw9 hb8 hb9 q0 HPR3 BP HWP
  obtain ⟨x0, x1⟩ := rng_cellsK RA.out
  obtain ⟨x2, x3⟩ := rng_cellsK RB.out
  obtain ⟨x4, x5⟩ := rng_cellsK RC.out
  go_upto_region 8 with fail
  rw [HW9.out]
  go_upto_region 10 with fail
  clear x0 x1 x2 x3 x4 x5 RA RB RC HW9
  have KD : Hid (KnSt w w9.drew g0 g) := KS.out.under (Below.refl _ _).drew
  have S0 := hole_cellK KD.out.h
  refine AnyBut.begin (S := fun w' => w'.cell? ⟨g0, 0, none⟩ = some (.slice (some ⟨g, 0, none⟩) 2 2)) (z := 100) mixed ?_
  refine AnyBut.takeD 0 112 (v := .agg #[.slice (some ⟨g, 0, none⟩) 2 2]) rfl rfl (by decide +kernel) (fun _ _ _ h => h) S0 (Or.inl ⟨by rfl, fun w' hw' => by go_simp⟩) ?_
  simp only [List.setIfInBounds_toArray, List.set_cons_zero, List.set_cons_succ]
  refine AnyBut.takeD 2 114 (v := .agg #[.int .i64 15000, .int .i64 400000]) rfl rfl (by decide +kernel) (fun _ _ _ h => h) S0 (Or.inl ⟨by rfl, fun w' hw' => by go_simp⟩) ?_
  simp only [List.setIfInBounds_toArray, List.set_cons_zero, List.set_cons_succ]
  refine AnyBut.only (i := 1) (by decide +kernel) rfl rfl (fun K hK => ?_)
  go_simp
  refine (law03_one _).mono ?_
  rintro e wa ⟨⟨g7, rfl, h7⟩, hb7⟩
  have K7 : Hid (KnSt w wa g0 g) := KD.out.under hb7
  have O7 := Lib.hid h7
  refine hK _ _ (fun _ => hole_cellK K7.out.h) ?_
  clear hK h7 hb7 S0
  refine AnyBut.only (i := 3) (by decide +kernel) rfl rfl (fun K hK => ?_)
  go_simp
  refine (HPU.out _ g7 K7.out O7.out).mono ?_
  rintro e we ⟨⟨A1, p1, A2, p2, rfl, hs1, hs2⟩, hb8⟩
  have N1 := Lib.hid hs1
  have N2 := Lib.hid hs2
  have K8 : Hid (KnSt w we g0 g) := K7.out.under hb8
  have S1 := hole_cellK K8.out.h
  refine hK _ _ (fun _ => S1) ?_
  clear hK hs1 hs2 hb8 K7 O7 KD KS HPU
  refine AnyBut.takeD 4 111 (v := .tuple #[.slice A1 2 p1, .slice A2 1 p2, .int .i64 0]) rfl rfl (by decide +kernel) (fun _ _ _ h => h) S1 (Or.inl ⟨by rfl, fun w' hw' => by go_simp⟩) ?_
  simp only [List.setIfInBounds_toArray, List.set_cons_zero, List.set_cons_succ]
  refine AnyBut.takeD 5 116 (v := .slice A1 2 p1) rfl rfl (by decide +kernel) (fun _ _ _ h => h) S1 (Or.inl ⟨by rfl, fun w' hw' => by go_simp⟩) ?_
  simp only [List.setIfInBounds_toArray, List.set_cons_zero, List.set_cons_succ]
  refine AnyBut.takeD 6 117 (v := .slice A2 1 p2) rfl rfl (by decide +kernel) (fun _ _ _ h => h) S1 (Or.inl ⟨by rfl, fun w' hw' => by go_simp⟩) ?_
  simp only [List.setIfInBounds_toArray, List.set_cons_zero, List.set_cons_succ]
  refine AnyBut.takeD 7 118 (v := .int .i64 0) rfl rfl (by decide +kernel) (fun _ _ _ h => h) S1 (Or.inl ⟨by rfl, fun w' hw' => by go_simp⟩) ?_
  simp only [List.setIfInBounds_toArray, List.set_cons_zero, List.set_cons_succ]
  refine AnyBut.only (i := 8) (by decide +kernel) rfl rfl (fun K hK => ?_)
  go_simp
  refine hK _ _ (fun _ => S1) ?_
  clear hK
  refine AnyBut.only (i := 9) (by decide +kernel) rfl rfl (fun K hK => ?_)
  go_simp
  refine hK _ _ (fun _ => S1) ?_
  clear hK
  refine AnyBut.only (i := 10) (by decide +kernel) rfl rfl (fun K hK => ?_)
  go_simp
  refine hK _ _ (fun _ => S1) ?_
  clear hK
  refine AnyBut.done (by decide +kernel) ?_
  have KS := Lib.hid K8.out
  clear K8 S1
  go_upto_region 11 with fail
  have q0 := hole_cellK KS.out.h
  have hlw := KS.out.low.size
  go_cut [11, 6] (fun s11 s6 wx => ∃ gx : Nat, s11 = .pointer (some ⟨gx, 0, none⟩) ∧ s6 = .int .i64 0 ∧ Hid (KnSt w wx g0 g) ∧ Hid (Box wx gx 34 #[.int .i64 12000, .int .i64 12000]) ∧ Hid (Below we.heap.size we wx))
  case first =>
    have KA : Hid (KnSt w we.drew g0 g) := KS.out.under (Below.refl _ _).drew
    have LA : Hid (Below we.heap.size we we.drew) := (Below.refl _ _).drew
    refine AnyBut.begin (S := fun w' => w'.cell? ⟨g0, 0, none⟩ = some (.slice (some ⟨g, 0, none⟩) 2 2)) (z := 100) mixed ?_
    have S0 := hole_cellK KA.out.h
    refine AnyBut.takeD 0 120 (v := .agg #[.slice (some ⟨g, 0, none⟩) 2 2]) rfl rfl (by decide +kernel) (fun _ _ _ h => h) S0 (Or.inl ⟨by rfl, fun w' hw' => by go_simp⟩) ?_
    simp only [List.setIfInBounds_toArray, List.set_cons_zero, List.set_cons_succ]
    refine AnyBut.two 1 6 (by decide +kernel) rfl rfl rfl rfl (fun K hK => ?_) (fun K hK => ?_)
    · skip
      go_simp
      refine (law03_one _).mono ?_
      rintro e w7 ⟨⟨g7, rfl, h7⟩, hb7⟩
      have K7 : Hid (KnSt w w7 g0 g) := KA.out.under hb7
      have L7 : Hid (Below we.heap.size we w7) := LA.out.trans (hb7.mono LA.out.size)
      have O7 := Lib.hid h7
      have HB7 := Lib.hid hb7
      refine hK _ _ (fun _ => hole_cellK K7.out.h) ?_
      clear hK h7 hb7
      refine AnyBut.two 2 6 (by decide +kernel) rfl rfl rfl rfl (fun K hK => ?_) (fun K hK => ?_)
      · skip
        go_simp
        refine (HEQ.out _ g7 K7.out O7.out).mono ?_
        rintro e w8 ⟨rfl, hb8⟩
        have K8 : Hid (KnSt w w8 g0 g) := KnSt.under K7.out hb8
        have L8 : Hid (Below we.heap.size we w8) := Below.trans L7.out (hb8.mono (Below.size L7.out))
        have HB8 := Lib.hid hb8
        refine hK _ _ (fun _ => hole_cellK K8.out.h) ?_
        clear hK hb8
        refine AnyBut.takeD 3 119 (v := .tuple #[.agg #[.int .i64 12000, .int .i64 12000], .int .i64 0]) rfl rfl (by decide +kernel) (fun _ _ _ h => h) (hole_cellK K8.out.h) (Or.inl ⟨by rfl, fun w' hw' => by go_simp⟩) ?_
        simp only [List.setIfInBounds_toArray, List.set_cons_zero, List.set_cons_succ]
        refine AnyBut.takeD 4 123 (v := .agg #[.int .i64 12000, .int .i64 12000]) rfl rfl (by decide +kernel) (fun _ _ _ h => h) (hole_cellK K8.out.h) (Or.inl ⟨by rfl, fun w' hw' => by go_simp⟩) ?_
        simp only [List.setIfInBounds_toArray, List.set_cons_zero, List.set_cons_succ]
        refine AnyBut.takeD 5 124 (v := .int .i64 0) rfl rfl (by decide +kernel) (fun _ _ _ h => h) (hole_cellK K8.out.h) (Or.inl ⟨by rfl, fun w' hw' => by go_simp⟩) ?_
        simp only [List.setIfInBounds_toArray, List.set_cons_zero, List.set_cons_succ]
        refine AnyBut.only (i := 6) (by decide +kernel) rfl rfl (fun K hK => ?_)
        go_simp
        have KN : Hid (KnSt w (w8.alloc (.cells #[.int .i64 0, .int .i64 0] 34)) g0 g) := K8.out.under ((Below.refl _ _).alloc (Nat.le_refl _) _)
        refine hK _ _ (fun _ => hole_cellK KN.out.h) ?_
        clear hK
        have KR : Hid (KnSt w (w8.alloc (.cells #[.int .i64 12000, .int .i64 12000] 34)) g0 g) := K8.out.under ((Below.refl _ _).alloc (Nat.le_refl _) _)
        have RR := Lib.hid (Box.new w8 34 #[.int .i64 12000, .int .i64 12000] rfl)
        refine AnyBut.only (i := 7) (by decide +kernel) rfl rfl (fun K hK => ?_)
        go_simp
        refine hK _ _ (fun _ => hole_cellK KR.out.h) ?_
        clear hK
        refine AnyBut.only (i := 8) (by decide +kernel) rfl rfl (fun K hK => ?_)
        go_simp
        refine hK _ _ (fun _ => hole_cellK KR.out.h) ?_
        clear hK
        refine AnyBut.done (by decide +kernel) ?_
        go_wp2_with fail
        go_meet
        exact ⟨_, rfl, rfl, KR, RR, L8.out.alloc L8.out.size _⟩
      · skip
        go_simp
        have KN : Hid (KnSt w (w7.alloc (.cells #[.int .i64 0, .int .i64 0] 34)) g0 g) := K7.out.under ((Below.refl _ _).alloc (Nat.le_refl _) _)
        have LN : Hid (Below we.heap.size we (w7.alloc (.cells #[.int .i64 0, .int .i64 0] 34))) := L7.out.alloc L7.out.size _
        refine hK _ _ (fun _ => hole_cellK KN.out.h) ?_
        clear hK
        refine AnyBut.only (i := 2) (by decide +kernel) rfl rfl (fun K hK => ?_)
        go_simp
        refine (HEQ.out _ g7 KN.out (O7.out.alloc _)).mono ?_
        rintro e w8 ⟨rfl, hb8⟩
        have K8 : Hid (KnSt w w8 g0 g) := KnSt.under KN.out hb8
        have L8 : Hid (Below we.heap.size we w8) := Below.trans LN.out (hb8.mono (Below.size LN.out))
        have HB8 := Lib.hid hb8
        refine hK _ _ (fun _ => hole_cellK K8.out.h) ?_
        clear hK hb8
        have RR : Hid (Box w8 w7.heap.size 34 #[.int .i64 0, .int .i64 0]) := (Box.new w7 34 #[.int .i64 0, .int .i64 0] rfl).under HB8.out
        have hgx : we.heap.size ≤ w7.heap.size := L7.out.size
        have SS := hole_cellK K8.out.h
        have SP := hole_cellK (far2 (a := .int .i64 12000) (b := .int .i64 12000) K8.out.h RR.out (by decide))
        refine AnyBut.takeD 3 119 (v := .tuple #[.agg #[.int .i64 12000, .int .i64 12000], .int .i64 0]) rfl rfl (by decide +kernel) (fun _ _ _ h => h) SS (Or.inl ⟨by rfl, fun w' hw' => by go_simp⟩) ?_
        simp only [List.setIfInBounds_toArray, List.set_cons_zero, List.set_cons_succ]
        refine AnyBut.takeD 4 123 (v := .agg #[.int .i64 12000, .int .i64 12000]) rfl rfl (by decide +kernel) (fun _ _ _ h => h) SS (Or.inl ⟨by rfl, fun w' hw' => by go_simp⟩) ?_
        simp only [List.setIfInBounds_toArray, List.set_cons_zero, List.set_cons_succ]
        refine AnyBut.takeD 5 124 (v := .int .i64 0) rfl rfl (by decide +kernel) (fun _ _ _ h => h) SS (Or.inl ⟨by rfl, fun w' hw' => by go_simp⟩) ?_
        simp only [List.setIfInBounds_toArray, List.set_cons_zero, List.set_cons_succ]
        obtain ⟨y0, y1⟩ := rng_cellsK RR.out
        have f0 := RR.out.frozen 0
        have f1 := RR.out.frozen 1
        refine AnyBut.only (i := 7) (by decide +kernel) rfl rfl (fun K hK => ?_)
        go_simp
        refine hK _ _ (fun _ => SP) ?_
        clear hK
        refine AnyBut.only (i := 8) (by decide +kernel) rfl rfl (fun K hK => ?_)
        go_simp
        refine hK _ _ (fun _ => SP) ?_
        clear hK
        refine AnyBut.done (by decide +kernel) ?_
        go_wp2_with fail
        go_meet
        exact ⟨_, rfl, rfl, K8.out.put RR.out (Nat.le_trans hlw hgx) _ _, rng_putK RR.out _ _, below_putK L8.out hgx _ _⟩
    · skip
      go_simp
      have KN : Hid (KnSt w (we.drew.alloc (.cells #[.int .i64 0, .int .i64 0] 34)) g0 g) := KA.out.under ((Below.refl _ _).alloc (Nat.le_refl _) _)
      have LN : Hid (Below we.heap.size we (we.drew.alloc (.cells #[.int .i64 0, .int .i64 0] 34))) := LA.out.alloc LA.out.size _
      refine hK _ _ (fun _ => hole_cellK KN.out.h) ?_
      clear hK
      refine AnyBut.only (i := 1) (by decide +kernel) rfl rfl (fun K hK => ?_)
      go_simp
      refine (law03_one _).mono ?_
      rintro e w7 ⟨⟨g7, rfl, h7⟩, hb7⟩
      have K7 : Hid (KnSt w w7 g0 g) := KN.out.under hb7
      have L7 : Hid (Below we.heap.size we w7) := LN.out.trans (hb7.mono LN.out.size)
      have O7 := Lib.hid h7
      have HB7 := Lib.hid hb7
      refine hK _ _ (fun _ => hole_cellK K7.out.h) ?_
      clear hK h7 hb7
      refine AnyBut.only (i := 2) (by decide +kernel) rfl rfl (fun K hK => ?_)
      go_simp
      refine (HEQ.out _ g7 K7.out O7.out).mono ?_
      rintro e w8 ⟨rfl, hb8⟩
      have K8 : Hid (KnSt w w8 g0 g) := KnSt.under K7.out hb8
      have L8 : Hid (Below we.heap.size we w8) := Below.trans L7.out (hb8.mono (Below.size L7.out))
      have HB8 := Lib.hid hb8
      refine hK _ _ (fun _ => hole_cellK K8.out.h) ?_
      clear hK hb8
      have RR : Hid (Box w8 we.heap.size 34 #[.int .i64 0, .int .i64 0]) := ((Box.new we.drew 34 #[.int .i64 0, .int .i64 0] rfl).under HB7.out).under HB8.out
      have hgx : we.heap.size ≤ we.heap.size := LA.out.size
      have SS := hole_cellK K8.out.h
      have SP := hole_cellK (far2 (a := .int .i64 12000) (b := .int .i64 12000) K8.out.h RR.out (by decide))
      refine AnyBut.takeD 3 119 (v := .tuple #[.agg #[.int .i64 12000, .int .i64 12000], .int .i64 0]) rfl rfl (by decide +kernel) (fun _ _ _ h => h) SS (Or.inl ⟨by rfl, fun w' hw' => by go_simp⟩) ?_
      simp only [List.setIfInBounds_toArray, List.set_cons_zero, List.set_cons_succ]
      refine AnyBut.takeD 4 123 (v := .agg #[.int .i64 12000, .int .i64 12000]) rfl rfl (by decide +kernel) (fun _ _ _ h => h) SS (Or.inl ⟨by rfl, fun w' hw' => by go_simp⟩) ?_
      simp only [List.setIfInBounds_toArray, List.set_cons_zero, List.set_cons_succ]
      refine AnyBut.takeD 5 124 (v := .int .i64 0) rfl rfl (by decide +kernel) (fun _ _ _ h => h) SS (Or.inl ⟨by rfl, fun w' hw' => by go_simp⟩) ?_
      simp only [List.setIfInBounds_toArray, List.set_cons_zero, List.set_cons_succ]
      obtain ⟨y0, y1⟩ := rng_cellsK RR.out
      have f0 := RR.out.frozen 0
      have f1 := RR.out.frozen 1
      refine AnyBut.only (i := 7) (by decide +kernel) rfl rfl (fun K hK => ?_)
      go_simp
      refine hK _ _ (fun _ => SP) ?_
      clear hK
      refine AnyBut.only (i := 8) (by decide +kernel) rfl rfl (fun K hK => ?_)
      go_simp
      refine hK _ _ (fun _ => SP) ?_
      clear hK
      refine AnyBut.done (by decide +kernel) ?_
      go_wp2_with fail
      go_meet
      exact ⟨_, rfl, rfl, K8.out.put RR.out (Nat.le_trans hlw hgx) _ _, rng_putK RR.out _ _, below_putK L8.out hgx _ _⟩
  case rest =>
  obtain ⟨gd, rfl, rfl, KS1, RD, LA1⟩ := hcut
  replace N1 := Lib.hid (N1.out.up LA1.out LA1.out.size)
  replace N2 := Lib.hid (N2.out.up LA1.out LA1.out.size)
  clear KS HEQ LA1
  have KS := Lib.hid KS1.out
  clear KS1 q0 hlw
  have HS1 := Lib.hid (fun W g1 (hN : Slugs W W.heap.size A1 [⟨15000, 400000⟩, ⟨12000, 700000⟩]) (hs : Box W g1 39 #[.int .i64 15000, .int .i64 400000, .int .i64 12000, .int .i64 700000]) => (by have := kit_SameSlugs [⟨15000, 400000⟩, ⟨12000, 700000⟩] [⟨15000, 400000⟩, ⟨12000, 700000⟩] A1 (some ⟨g1, 0, none⟩) p1 2 W hN (now_slugs hs) (by simp) (by simp); rw [decide_eq_true rfl] at this; exact this :
    Calls Try.prog 55 #[.slice A1 2 p1, .slice (some ⟨g1, 0, none⟩) 2 2] W fun e w' => e = .returned (.bool true) ∧ Below W.heap.size W w'))
  have HS2 := Lib.hid (fun W g1 (hN : Slugs W W.heap.size A2 [⟨12000, 400000⟩]) (hs : Box W g1 39 #[.int .i64 12000, .int .i64 400000]) => (by have := kit_SameSlugs [⟨12000, 400000⟩] [⟨12000, 400000⟩] A2 (some ⟨g1, 0, none⟩) p2 1 W hN (out_slugs hs) (by simp) (by simp); rw [decide_eq_true rfl] at this; exact this :
    Calls Try.prog 55 #[.slice A2 1 p2, .slice (some ⟨g1, 0, none⟩) 1 1] W fun e w' => e = .returned (.bool true) ∧ Below W.heap.size W w'))
  obtain ⟨wp, hwp⟩ : ∃ wp, wc.alloc (.cells #[.int .i64 15000, .int .i64 400000, .int .i64 12000, .int .i64 700000] 39) = wp := ⟨_, rfl⟩
  have hbp : Below wc.heap.size wc wp := by rw [← hwp]; exact (Below.refl _ _).alloc (Nat.le_refl _) _
  have BP := Lib.hid (show Box wp wc.heap.size 39 #[.int .i64 15000, .int .i64 400000, .int .i64 12000, .int .i64 700000] by rw [← hwp]; exact Box.new _ _ _ rfl)
  replace KS := Lib.hid (KS.out.under hbp)
  replace RD := Lib.hid (RD.out.under hbp)
  replace N1 := Lib.hid (N1.out.up hbp hbp.size)
  replace N2 := Lib.hid (N2.out.up hbp hbp.size)
  have HWP := Lib.hid hwp
  clear hwp hbp
  go_wp2_with fail
  rw [HWP.out]
  refine (HS1.out _ _ N1.out BP.out).mono ?_
  rintro e wf ⟨rfl, hbf⟩
  replace KS := Lib.hid (KS.out.under hbf)
  replace RD := Lib.hid (RD.out.under hbf)
  replace N2 := Lib.hid (N2.out.up hbf hbf.size)
  clear hbf N1 BP HWP HS1
  obtain ⟨wp, hwp⟩ : ∃ wp, wf.alloc (.cells #[.int .i64 12000, .int .i64 400000] 39) = wp := ⟨_, rfl⟩
  have hbp : Below wf.heap.size wf wp := by rw [← hwp]; exact (Below.refl _ _).alloc (Nat.le_refl _) _
  have BP := Lib.hid (show Box wp wf.heap.size 39 #[.int .i64 12000, .int .i64 400000] by rw [← hwp]; exact Box.new _ _ _ rfl)
  replace KS := Lib.hid (KS.out.under hbp)
  replace RD := Lib.hid (RD.out.under hbp)
  replace N2 := Lib.hid (N2.out.up hbp hbp.size)
  have HWP := Lib.hid hwp
  clear hwp hbp
  go_wp2_with fail
  rw [HWP.out]
  refine (HS2.out _ _ N2.out BP.out).mono ?_
  rintro e wg ⟨rfl, hbf⟩
  replace KS := Lib.hid (KS.out.under hbf)
  replace RD := Lib.hid (RD.out.under hbf)
  clear hbf N2 BP HWP HS2
  obtain ⟨x0, x1⟩ := rng_cellsK RD.out
  go_upto_region 15 with fail
  clear x0 x1 RD
  obtain ⟨wh, hwh⟩ : ∃ wh, ((wg.alloc (.cells #[.int .i64 5000000, .int .i64 1000] 85)).alloc (.cells #[.int .i64 5000, .int .i64 1000] 85)) = wh := ⟨_, rfl⟩
  have hbp : Below wg.heap.size wg wh := by rw [← hwh]; exact ((Below.refl _ _).alloc (Nat.le_refl _) _).alloc (by simp) _
  have GX := Lib.hid (show Box wh wg.heap.size 85 #[.int .i64 5000000, .int .i64 1000] by rw [← hwh]; exact (Box.new _ _ _ rfl).alloc _)
  have GY := Lib.hid (show Box wh (wg.heap.size + 1) 85 #[.int .i64 5000, .int .i64 1000] by rw [← hwh]; exact Box.new _ _ _ (by simp))
  replace KS := Lib.hid (KS.out.under hbp)
  have HWH := Lib.hid hwh
  clear hwh hbp
  have B1 := Lib.hid (fun W => (by have := fluid_Bubble ⟨5000, 1000⟩ W; rw [known_gas.1] at this; exact this : Calls Try.prog 43 #[.agg #[.int .i64 5000, .int .i64 1000]] W fun e w' => e = .returned (.tuple #[.int .i64 5242880, .bool true]) ∧ Below W.heap.size W w'))
  have B2 := Lib.hid (fun W => (by have := fluid_Flows ⟨1000, 800, 300, 50⟩ ⟨100, 10⟩ 2 1 W; rw [known_flow] at this; exact this : Calls Try.prog 38 #[.agg #[.int .i64 1000, .int .i64 800, .int .i64 300, .int .i64 50], .agg #[.int .i64 100, .int .i64 10], .int .i64 2, .int .i64 1] W fun e w' => e = .returned (.bool false) ∧ Below W.heap.size W w'))
  have B3 := Lib.hid (fun W => (by have := fluid_Free ⟨5000000, 1000⟩ 3145728 W; rw [known_gas.2.1] at this; exact this : Calls Try.prog 45 #[.agg #[.int .i64 5000000, .int .i64 1000], .int .i64 3145728] W fun e w' => e = .returned (.int .i64 4997000) ∧ Below W.heap.size W w'))
  have B4 := Lib.hid (fun W => (by have := fluid_Space ⟨5000000, 1000⟩ 3145728 W; rw [known_gas.2.2.1, known_gas.2.2.2] at this; exact this : Calls Try.prog 47 #[.agg #[.int .i64 5000000, .int .i64 1000], .int .i64 3145728] W fun e w' => e = .returned (.agg #[.int .i64 1, .int .i64 2]) ∧ Below W.heap.size W w'))
  have B5 := Lib.hid (fun W => (by have := fluid_Load ⟨1000, 800, 300, 50⟩ 100 40000 30 W; rw [known_load.1] at this; exact this : Calls Try.prog 39 #[.agg #[.int .i64 1000, .int .i64 800, .int .i64 300, .int .i64 50], .int .i64 100, .int .i64 40000, .int .i64 30] W fun e w' => e = .returned (.tuple #[.int .i64 4, .bool true]) ∧ Below W.heap.size W w'))
  have B6 := Lib.hid (fun W => (by have := fluid_Load ⟨1000, 800, 300, 50⟩ 100 9000 30 W; rw [known_load.2.1] at this; exact this : Calls Try.prog 39 #[.agg #[.int .i64 1000, .int .i64 800, .int .i64 300, .int .i64 50], .int .i64 100, .int .i64 9000, .int .i64 30] W fun e w' => e = .returned (.tuple #[.int .i64 0, .bool false]) ∧ Below W.heap.size W w'))
  have B7 := Lib.hid (fun W => (by have := fluid_Mixed 12000 26000 4 W; rw [known_load.2.2] at this; exact this : Calls Try.prog 41 #[.int .i64 12000, .int .i64 26000, .int .i64 4] W fun e w' => e = .returned (.int .i64 12056) ∧ W = w'))
  obtain ⟨y0, y1⟩ := gas_cellsK GY.out
  rw [HWH.out]
  go_wp2_with fail
  refine (B1.out _).mono ?_
  rintro e v1 ⟨rfl, hb⟩
  replace KS := Lib.hid (KS.out.under hb)
  replace GX := Lib.hid (GX.out.under hb)
  clear hb y0 y1 GY HWH
  have q0 := hole_cellK KS.out.h
  obtain ⟨c0, c1, c2, c3⟩ := seg0_cells KS.out.s
  go_wp2_with fail
  refine (B2.out _).mono ?_
  rintro e v2 ⟨rfl, hb⟩
  replace KS := Lib.hid (KS.out.under hb)
  replace GX := Lib.hid (GX.out.under hb)
  clear hb q0 c0 c1 c2 c3
  obtain ⟨x0, x1⟩ := gas_cellsK GX.out
  go_wp2_with fail
  refine (B3.out _).mono ?_
  rintro e v3 ⟨rfl, hb⟩
  replace KS := Lib.hid (KS.out.under hb)
  replace GX := Lib.hid (GX.out.under hb)
  clear hb x0 x1
  obtain ⟨x0, x1⟩ := gas_cellsK GX.out
  go_wp2_with fail
  refine (B4.out _).mono ?_
  rintro e v4 ⟨rfl, hb⟩
  replace KS := Lib.hid (KS.out.under hb)
  clear hb x0 x1 GX
  have q0 := hole_cellK KS.out.h
  obtain ⟨c0, c1, c2, c3⟩ := seg0_cells KS.out.s
  go_wp2_with fail
  refine (B5.out _).mono ?_
  rintro e v5 ⟨rfl, hb⟩
  replace KS := Lib.hid (KS.out.under hb)
  clear hb q0 c0 c1 c2 c3
  have q0 := hole_cellK KS.out.h
  obtain ⟨c0, c1, c2, c3⟩ := seg0_cells KS.out.s
  go_wp2_with fail
  refine (B6.out _).mono ?_
  rintro e v6 ⟨rfl, hb⟩
  replace KS := Lib.hid (KS.out.under hb)
  clear hb q0 c0 c1 c2 c3
  go_wp2_with fail
  refine (B7.out _).mono ?_
  rintro e w' ⟨rfl, rfl⟩
  go_wp2_with fail
  refine (law03_awake _).mono ?_
  rintro e v7 ⟨rfl, hb⟩
  go_wp2_with fail
  go_ret
  exact ⟨rfl, KS.out.low.trans (hb.mono KS.out.low.size)⟩

end Go.Proofs.Ytgcfplkfclapiaa
