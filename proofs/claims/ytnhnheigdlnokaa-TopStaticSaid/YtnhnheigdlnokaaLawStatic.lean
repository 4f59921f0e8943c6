/- The law TopStatic, walked. (Printed by gen_static.py.) -/
import Derived.Test.YtnhnheigdlnokaaTopAwake
import Derived.Test.YtnhnheigdlnokaaHouse
import Derived.Test.YtnhnheigdlnokaaFPress3
import Derived.Test.YtnhnheigdlnokaaFTop
import Derived.Test.YtnhnheigdlnokaaMod
import Derived.Test.YtnhnheigdlnokaaHeld4
import Derived.Deep.DeepCutAuto
namespace Go.Proofs.Ytnhnheigdlnokaa
open Go.RowKit Go.Shelf Go.Deep Mpl

theorem one_seg {w : World} {g : Nat} {L T A : Int} (h : Box w g 24 #[.int .i64 L, .int .i64 T, .int .i64 A, .int .i64 10]) : HoleV w w.heap.size (.agg #[.slice (some ⟨g, 0, none⟩) 1 1]) [⟨L, T, A, 10⟩] := ⟨_, _, rfl, fun _ => ⟨g, 0, rfl, h.lt, fun i hi => by
  obtain rfl : i = 0 := by simpa using hi
  exact ⟨h.cell 0, h.cell 1, h.cell 2, h.cell 3⟩⟩⟩
theorem one_slugT {w : World} {g : Nat} {a b : Int} (h : Box w g 35 #[.int .i64 a, .int .i64 b]) : Slugs w w.heap.size (some ⟨g, 0, none⟩) [⟨a, b⟩] := fun _ => ⟨g, 0, rfl, h.lt, fun i hi => by
  obtain rfl : i = 0 := by simpa using hi
  exact ⟨h.cell 0, h.cell 1⟩⟩
theorem hole_cellT {w : World} {g t : Nat} {v : Value} (h : Box w g t #[v]) : w.cell? ⟨g, 0, none⟩ = some v := h.cell 0
theorem rng_cellsT {W : World} {g : Nat} {a b : Value} (h : Box W g 30 #[a, b]) : W.cell? ⟨g, 0, none⟩ = some a ∧ W.cell? ⟨g, 1, none⟩ = some b := ⟨h.cell 0, h.cell 1⟩
theorem seg_inT {L T A : Int} (h0 : 0 ≤ L ∧ L ≤ 4611686018427387904) (h1 : 0 ≤ T ∧ T ≤ 4611686018427387904) (h2 : 0 ≤ A ∧ A ≤ 4611686018427387904) : SegsIn [⟨L, T, A, 10⟩] := by
  intro i
  match i with
  | 0 => simp [sg, SegIn, inI64]; omega
  | i + 1 => simp [sg, SegIn, inI64]
theorem slug_inT {a b : Int} (h0 : 0 ≤ a ∧ a ≤ 4611686018427387904) (h1 : 0 ≤ b ∧ b ≤ 4611686018427387904) : SlugsIn [⟨a, b⟩] := by
  intro i
  match i with
  | 0 => simp [slg, SlugIn, inI64]; omega
  | i + 1 => simp [slg, SlugIn, inI64]
theorem apartT {W : World} {g g' t t' : Nat} {cs cs' : Array Value} (h : Box W g t cs) (h' : Box W g' t' cs') (hne : t ≠ t') : g ≠ g' := fun e => by
  subst e
  unfold Box at h h'
  rw [h] at h'
  injection h' with h'
  injection h' with _ h1
  exact hne h1
/-- what the law holds in memory -/
structure TopM (w W : World) (g0 g : Nat) (L T A : Int) : Prop where
  h : Box W g0 27 #[.slice (some ⟨g, 0, none⟩) 1 1]
  s : Box W g 24 #[.int .i64 L, .int .i64 T, .int .i64 A, .int .i64 10]
  low : Below w.heap.size w W
theorem TopM.under {w W W' : World} {g0 g : Nat} {L T A : Int} (h : TopM w W g0 g L T A) (hb : Below W.heap.size W W') : TopM w W' g0 g L T A := ⟨h.h.under hb, h.s.under hb, h.low.trans (hb.mono h.low.size)⟩

set_option maxHeartbeats 8000000 in
set_option maxRecDepth 100000 in
theorem walk_TopStatic (a0 a1 a2 a3 a4 a5 : Int) (w : World) (i0 : inI64 a0) (i1 : inI64 a1) (i2 : inI64 a2) (i3 : inI64 a3) (i4 : inI64 a4) (i5 : inI64 a5) :
    Calls Try.prog 3 #[.int .i64 a0, .int .i64 a1, .int .i64 a2, .int .i64 a3, .int .i64 a4, .int .i64 a5] w fun e w' => e = .returned (.bool true) ∧ Below w.heap.size w w' := by
  have hq := run_eql_rngT
  have M1 := Lib.hid (fun W => kit_Mod64 a1 100000 W i1 (by omega) (by omega))
  have M0 := Lib.hid (fun W => kit_Mod64 a0 4 W i0 (by omega) (by omega))
  have M2 := Lib.hid (fun W => kit_Mod64 a2 1000 W i2 (by omega) (by omega))
  have M3 := Lib.hid (fun W => kit_Mod64 a3 40001 W i3 (by omega) (by omega))
  have M4 := Lib.hid (fun W => kit_Mod64 a4 68719476736 W i4 (by omega) (by omega))
  obtain ⟨T, hT⟩ : ∃ T, 1 + a1 % 100000 = T := ⟨_, rfl⟩
  obtain ⟨K, hK⟩ : ∃ K, 1 + a0 % 4 = K := ⟨_, rfl⟩
  obtain ⟨A, hA⟩ : ∃ A, 1 + a2 % 1000 = A := ⟨_, rfl⟩
  have hT0 : 1 ≤ T ∧ T ≤ 100000 := by omega
  have M5 := Lib.hid (fun W => kit_Mod64 a5 (T + 1) W i5 (by omega) (by omega))
  obtain ⟨z, hz⟩ : ∃ z, a5 % (T + 1) = z := ⟨_, rfl⟩
  obtain ⟨wt, hwt⟩ : ∃ wt, a3 % 40001 = wt := ⟨_, rfl⟩
  obtain ⟨P, hP⟩ : ∃ P, a4 % 68719476736 = P := ⟨_, rfl⟩
  have hst : Mpl.Stat T K A wt z := ⟨by omega, by omega, by omega, by omega, by omega, by omega, by omega, by omega, by rw [← hz]; exact Int.emod_nonneg _ (by omega), by have := Int.emod_lt_of_pos a5 (show 0 < T + 1 by omega); omega⟩
  have hP0 : 0 ≤ P ∧ P ≤ 68719476735 := by omega
  have wT : IntKind.i64.wrap (1 + a1 % 100000) = T := by rw [hT]; exact IntWalk.i64_in _ (by omega)
  have wK : IntKind.i64.wrap (1 + a0 % 4) = K := by rw [hK]; exact IntWalk.i64_in _ (by have := hst.k0; have := hst.k1; omega)
  have wA : IntKind.i64.wrap (1 + a2 % 1000) = A := by rw [hA]; exact IntWalk.i64_in _ (by have := hst.a0; have := hst.a1; omega)
  have wT1 : IntKind.i64.wrap (T + 1) = T + 1 := IntWalk.i64_in _ (by omega)
  obtain ⟨hseg, hl0, hl1⟩ := stat_seg hst
  obtain ⟨hp0, hp1, hp2, hp3⟩ := stat_place hst
  have hsz := seg_size hseg
  have hpr := stat_press (top := P) hst (by omega) (by omega)
  have hcol := stat_col hst
  have hroom := stat_room (k := K) (area := A) hT0.1
  have hgh := hcol.hole
  have hvol : volumeOf [⟨T * K, T, A, 10⟩] = T * K * A := by
    unfold volumeOf
    rw [if_pos ((checkHole_iff _).2 hgh)]
    simp [sizeUp, sumFrom, sizeAt, sg, segSize]
  have hVS : segSize ⟨T * K, T, A, 10⟩ = T * K * A := rfl
  rw [hVS] at hsz
  dsimp only at hsz
  obtain ⟨L, hL⟩ : ∃ L, T * K = L := ⟨_, rfl⟩
  rw [hL] at hl0 hl1 hsz hpr hroom hvol hp1
  obtain ⟨V, hV⟩ : ∃ V, L * A = V := ⟨_, rfl⟩
  obtain ⟨Q, hQ⟩ : ∃ Q, K * A = Q := ⟨_, rfl⟩
  rw [hV] at hsz hpr hroom hvol hp1
  rw [hQ] at hp0 hp1 hp2 hp3 hpr hroom
  obtain ⟨U, hU⟩ : ∃ U, Q * (T - z) = U := ⟨_, rfl⟩
  rw [hU] at hp0 hp1 hpr
  obtain ⟨Y, hY⟩ : ∃ Y, wt * z = Y := ⟨_, rfl⟩
  have hz0 := hst.z0
  have hz1 := hst.z1
  have hw0 := hst.w0
  have hw1 := hst.w1
  have hA0 := hst.a0
  have hA1 := hst.a1
  have hY0 : 0 ≤ Y := by rw [← hY]; exact Int.mul_nonneg hw0 hz0
  have hY1 : Y ≤ 40000 * 100000 := by rw [← hY]; exact Int.mul_le_mul hw1 (by omega) hz0 (by omega)
  rw [hY] at hpr
  have wL : IntKind.i64.wrap (T * K) = L := by rw [hL]; exact IntWalk.i64_in _ (by omega)
  have wV : IntKind.i64.wrap (L * A) = V := by rw [hV]; exact IntWalk.i64_in _ (by omega)
  have hdiv : V.tdiv T = Q := by rw [Int.tdiv_eq_ediv_of_nonneg (by omega)]; exact hroom
  have wQ : IntKind.i64.wrap (V.tdiv T) = Q := by rw [hdiv]; exact IntWalk.i64_in _ (by omega)
  have wD : IntKind.i64.wrap (T - z) = T - z := IntWalk.i64_in _ (by omega)
  have wU : IntKind.i64.wrap (Q * (T - z)) = U := by rw [hU]; exact IntWalk.i64_in _ (by omega)
  have wY : IntKind.i64.wrap (wt * z) = Y := by rw [hY]; exact IntWalk.i64_in _ (by omega)
  obtain ⟨S, hS⟩ : ∃ S, P + Y = S := ⟨_, rfl⟩
  have wS : IntKind.i64.wrap (P + Y) = S := by rw [hS]; exact IntWalk.i64_in _ (by omega)
  rw [hS] at hpr
  have HVOL := Lib.hid (fun W g (h : Box W g 24 #[.int .i64 L, .int .i64 T, .int .i64 A, .int .i64 10]) => (by have := fluid_Volume _ [⟨L, T, A, 10⟩] W (one_seg h) (seg_inT (by omega) (by omega) (by omega)) (by simp [maxLen]); rw [hvol] at this; exact this :
    Calls Try.prog 5 #[.agg #[.slice (some ⟨g, 0, none⟩) 1 1]] W fun e w' => e = .returned (.int .i64 V) ∧ Below W.heap.size W w'))
  have HPR := Lib.hid (fun W g s (h : Box W g 24 #[.int .i64 L, .int .i64 T, .int .i64 A, .int .i64 10]) (hs : Box W s 35 #[.int .i64 wt, .int .i64 V]) => (by have := fluid_Press _ [⟨L, T, A, 10⟩] [⟨wt, V⟩] (some ⟨s, 0, none⟩) 1 P U W (one_seg h) (seg_inT (by omega) (by omega) (by omega)) (by simp [maxLen]) (one_slugT hs) (slug_inT (by omega) (by omega)) (by simp) (by simp [maxLen]); rw [hpr] at this; exact this :
    Calls Try.prog 6 #[.agg #[.slice (some ⟨g, 0, none⟩) 1 1], .slice (some ⟨s, 0, none⟩) 1 1, .int .i64 P, .int .i64 U] W fun e w' => e = .returned (.tuple #[.agg #[.int .i64 S, .int .i64 S], .int .i64 0]) ∧ Below W.heap.size W w'))
  have HST := Lib.hid (fun W => (by have := house_Static T wt P z W hT0.1 hT0.2 hw0 hw1 (by omega) (by omega) hz0 hz1; rw [hY, hS] at this; exact this :
    Calls Try.prog 7 #[.agg (List.toArray (Value.int .i64 0 :: Value.int .i64 0 :: Value.int .i64 0 :: Value.int .i64 T :: Value.int .i64 0 :: Value.int .i64 0 :: Value.int .i64 wt :: Value.int .i64 P :: Value.int .i64 0 :: Value.int .i64 0 :: Value.int .i64 0 :: Value.int .i64 0 :: Value.int .i64 0 :: Value.int .i64 0 :: Value.slice none 0 0 :: Value.slice none 0 0 :: Value.slice none 0 0 :: Value.int .i64 0 :: Value.int .i64 0 :: Value.slice none 0 0 :: Value.slice none 0 0 :: Value.slice none 0 0 :: Value.int .i64 0 :: Value.int .i64 0 :: Value.int .i64 0 :: Value.int .i64 0 :: Value.int .i64 0 :: Value.slice none 0 0 :: Value.int .i64 0 :: Value.slice none 0 0 :: Value.int .i64 0 :: Value.int .i64 0 :: Value.int .i64 0 :: Value.int .i64 0 :: Value.int .i64 0 :: Value.int .i64 0 :: Value.int .i64 0 :: Value.slice none 0 0 :: Value.slice none 0 0 :: [])), .int .i64 z] W fun e w' => e = .returned (.int .i64 S) ∧ Below W.heap.size W w'))
  rw [hz] at M5
  rw [hwt] at M3
  rw [hP] at M4
  have tz : (T == 0) = false := beq_eq_false_iff_ne.2 (by omega)
  have tz2 : ¬T = 0 := by omega
  clear hst hseg hl0 hl1 hp0 hp1 hp2 hp3 hsz hpr hcol hroom hgh hvol hVS hL hV hQ hU hY hS hdiv hT hK hA hz hwt hP i0 i1 i2 i3 i4 i5 hz0 hz1 hw0 hw1 hA0 hA1 hY0 hY1 hP0
  go_enter Try.func3, Try.ntmps3
  go_wp2_with fail
  refine (M1.out _).mono ?_
  rintro e w' ⟨rfl, rfl⟩
  go_wp2_with fail
  refine (M0.out _).mono ?_
  rintro e w' ⟨rfl, rfl⟩
  go_wp2_with fail
  refine (M2.out _).mono ?_
  rintro e w' ⟨rfl, rfl⟩
  go_wp2_with fail
  refine (M3.out _).mono ?_
  rintro e w' ⟨rfl, rfl⟩
  go_wp2_with fail
  refine (M4.out _).mono ?_
  rintro e w' ⟨rfl, rfl⟩
  go_wp2_with fail
  refine (M5.out _).mono ?_
  rintro e w' ⟨rfl, rfl⟩
  clear M0 M1 M2 M3 M4 M5 wT wK wA wT1 wL
  go_upto_region 6 with fail
  obtain ⟨w2, hw2⟩ : ∃ w2, (w.alloc (.cells #[.int .i64 L, .int .i64 T, .int .i64 A, .int .i64 10] 24)).alloc (.cells #[.slice (some ⟨w.heap.size, 0, none⟩) 1 1] 27) = w2 := ⟨_, rfl⟩
  have M : Hid (TopM w w2 (w.heap.size + 1) w.heap.size L T A) := ⟨by rw [← hw2]; exact Box.new _ _ _ (by simp), by rw [← hw2]; exact (Box.new _ _ _ rfl).alloc _, by rw [← hw2]; exact (by repeat (first | exact Below.refl _ _ | assumption | refine Below.setCell ?_ (by first | (simp; done) | (simp; omega)) _ | refine belowDrewN ?_ _ | refine Below.drew ?_ | refine Below.alloc ?_ (by first | (simp; done) | (simp; omega)) _))⟩
  have HW2 := Lib.hid hw2
  clear hw2
  have q0 := hole_cellT M.out.h
  rw [HW2.out]
  go_wp2_with fail
  refine (HVOL.out _ _ M.out.s).mono ?_
  rintro e w3 ⟨rfl, hb3⟩
  replace M := Lib.hid (M.out.under hb3)
  clear hb3 q0 HW2 HVOL
  go_upto_region 9 with fail
  go_cut [15, 16] (fun s15 s16 wx => ∃ gx : Nat, s15 = .pointer (some ⟨gx, 0, none⟩) ∧ s16 = .int .i64 0 ∧ Hid (Box wx gx 30 #[.int .i64 S, .int .i64 S]) ∧ Hid (Below w.heap.size w wx))
  case first =>
    have MD : Hid (TopM w w3.drew (w.heap.size + 1) w.heap.size L T A) := M.out.under (Below.refl _ _).drew
    clear M
    have hlw := MD.out.low.size
    refine AnyBut.begin (S := fun w' => w'.cell? ⟨w.heap.size + 1, 0, none⟩ = some (.slice (some ⟨w.heap.size, 0, none⟩) 1 1)) (z := 100) mixed ?_
    have SS := hole_cellT MD.out.h
    refine AnyBut.takeD 0 51 (v := .agg #[.slice (some ⟨w.heap.size, 0, none⟩) 1 1]) rfl rfl (by decide +kernel) (fun _ _ _ h => h) SS (Or.inl ⟨by rfl, fun w' hw' => by go_simp⟩) ?_
    simp only [List.setIfInBounds_toArray, List.set_cons_zero, List.set_cons_succ]
    refine AnyBut.takeD 1 52 (v := .int .i64 wt) rfl rfl (by decide +kernel) (fun _ _ _ h => h) SS (Or.inl ⟨by rfl, fun w' hw' => by go_simp⟩) ?_
    simp only [List.setIfInBounds_toArray, List.set_cons_zero, List.set_cons_succ]
    refine AnyBut.takeD 2 53 (v := .int .i64 V) rfl rfl (by decide +kernel) (fun _ _ _ h => h) SS (Or.inl ⟨by rfl, fun w' hw' => by go_simp⟩) ?_
    simp only [List.setIfInBounds_toArray, List.set_cons_zero, List.set_cons_succ]
    refine AnyBut.takeD 3 54 (v := .agg #[.int .i64 wt, .int .i64 V]) rfl rfl (by decide +kernel) (fun _ _ _ h => h) SS (Or.inl ⟨by rfl, fun w' hw' => by go_simp⟩) ?_
    simp only [List.setIfInBounds_toArray, List.set_cons_zero, List.set_cons_succ]
    refine AnyBut.takeD 5 56 (v := .int .i64 P) rfl rfl (by decide +kernel) (fun _ _ _ h => h) SS (Or.inl ⟨by rfl, fun w' hw' => by go_simp⟩) ?_
    simp only [List.setIfInBounds_toArray, List.set_cons_zero, List.set_cons_succ]
    refine AnyBut.takeD 6 57 (v := .int .i64 V) rfl rfl (by decide +kernel) (fun _ _ _ h => h) SS (Or.inl ⟨by rfl, fun w' hw' => by go_simp⟩) ?_
    simp only [List.setIfInBounds_toArray, List.set_cons_zero, List.set_cons_succ]
    refine AnyBut.takeD 7 58 (v := .int .i64 T) rfl rfl (by decide +kernel) (fun _ _ _ h => h) SS (Or.inl ⟨by rfl, fun w' hw' => by go_simp⟩) ?_
    simp only [List.setIfInBounds_toArray, List.set_cons_zero, List.set_cons_succ]
    refine AnyBut.takeD 8 59 (v := .int .i64 Q) rfl rfl (by decide +kernel) (fun _ _ _ h => h) SS (Or.inl ⟨by rfl, fun w' hw' => by go_simp⟩) ?_
    simp only [List.setIfInBounds_toArray, List.set_cons_zero, List.set_cons_succ]
    refine AnyBut.takeD 9 60 (v := .int .i64 T) rfl rfl (by decide +kernel) (fun _ _ _ h => h) SS (Or.inl ⟨by rfl, fun w' hw' => by go_simp⟩) ?_
    simp only [List.setIfInBounds_toArray, List.set_cons_zero, List.set_cons_succ]
    refine AnyBut.takeD 10 61 (v := .int .i64 z) rfl rfl (by decide +kernel) (fun _ _ _ h => h) SS (Or.inl ⟨by rfl, fun w' hw' => by go_simp⟩) ?_
    simp only [List.setIfInBounds_toArray, List.set_cons_zero, List.set_cons_succ]
    refine AnyBut.takeD 11 62 (v := .int .i64 (T - z)) rfl rfl (by decide +kernel) (fun _ _ _ h => h) SS (Or.inl ⟨by rfl, fun w' hw' => by go_simp⟩) ?_
    simp only [List.setIfInBounds_toArray, List.set_cons_zero, List.set_cons_succ]
    refine AnyBut.takeD 12 63 (v := .int .i64 U) rfl rfl (by decide +kernel) (fun _ _ _ h => h) SS (Or.inl ⟨by rfl, fun w' hw' => by go_simp⟩) ?_
    simp only [List.setIfInBounds_toArray, List.set_cons_zero, List.set_cons_succ]
    refine AnyBut.two 4 17 (by decide +kernel) rfl rfl rfl rfl (fun K hK => ?_) (fun K hK => ?_)
    · skip
      go_simp
      have MA : Hid (TopM w (w3.drew.alloc (.cells #[.int .i64 wt, .int .i64 V] 35)) (w.heap.size + 1) w.heap.size L T A) := MD.out.under ((Below.refl _ _).alloc (Nat.le_refl _) _)
      have BA := Lib.hid (Box.new w3.drew 35 #[.int .i64 wt, .int .i64 V] rfl)
      refine hK _ _ (fun _ => hole_cellT MA.out.h) ?_
      clear hK
      refine AnyBut.two 13 17 (by decide +kernel) rfl rfl rfl rfl (fun K hK => ?_) (fun K hK => ?_)
      · skip
        go_simp
        refine (HPR.out _ _ _ MA.out.s BA.out).mono ?_
        rintro e w4 ⟨rfl, hb⟩
        have MB : Hid (TopM w w4 (w.heap.size + 1) w.heap.size L T A) := MA.out.under hb
        refine hK _ _ (fun _ => hole_cellT MB.out.h) ?_
        clear hK
        clear hb MA MD BA SS HPR
        refine AnyBut.takeD 14 50 (v := .tuple #[.agg #[.int .i64 S, .int .i64 S], .int .i64 0]) rfl rfl (by decide +kernel) (fun _ _ _ h => h) (hole_cellT MB.out.h) (Or.inl ⟨by rfl, fun w' hw' => by go_simp⟩) ?_
        simp only [List.setIfInBounds_toArray, List.set_cons_zero, List.set_cons_succ]
        refine AnyBut.takeD 15 65 (v := .agg #[.int .i64 S, .int .i64 S]) rfl rfl (by decide +kernel) (fun _ _ _ h => h) (hole_cellT MB.out.h) (Or.inl ⟨by rfl, fun w' hw' => by go_simp⟩) ?_
        simp only [List.setIfInBounds_toArray, List.set_cons_zero, List.set_cons_succ]
        refine AnyBut.takeD 16 66 (v := .int .i64 0) rfl rfl (by decide +kernel) (fun _ _ _ h => h) (hole_cellT MB.out.h) (Or.inl ⟨by rfl, fun w' hw' => by go_simp⟩) ?_
        simp only [List.setIfInBounds_toArray, List.set_cons_zero, List.set_cons_succ]
        refine AnyBut.only (i := 17) (by decide +kernel) rfl rfl (fun K hK => ?_)
        go_simp
        have MC : Hid (TopM w (w4.alloc (.cells #[.int .i64 0, .int .i64 0] 30)) (w.heap.size + 1) w.heap.size L T A) := MB.out.under ((Below.refl _ _).alloc (Nat.le_refl _) _)
        have RB := Lib.hid (Box.new w4 30 #[.int .i64 0, .int .i64 0] rfl)
        have hlt : w.heap.size ≤ w4.heap.size := MB.out.low.size
        refine hK _ _ (fun _ => hole_cellT MC.out.h) ?_
        clear hK
        have KR : Hid (TopM w (w4.alloc (.cells #[.int .i64 S, .int .i64 S] 30)) (w.heap.size + 1) w.heap.size L T A) := MB.out.under ((Below.refl _ _).alloc (Nat.le_refl _) _)
        have RR := Lib.hid (Box.new w4 30 #[.int .i64 S, .int .i64 S] rfl)
        have SP := hole_cellT KR.out.h
        clear MB MC RB hlt
        refine AnyBut.only (i := 18) (by decide +kernel) rfl rfl (fun K hK => ?_)
        go_simp
        refine hK _ _ (fun _ => SP) ?_
        clear hK
        refine AnyBut.only (i := 19) (by decide +kernel) rfl rfl (fun K hK => ?_)
        go_simp
        refine hK _ _ (fun _ => SP) ?_
        clear hK
        refine AnyBut.done (by decide +kernel) ?_
        go_wp2_with fail
        go_meet
        exact ⟨_, rfl, rfl, RR, KR.out.low⟩
      · skip
        go_simp
        have MB : Hid (TopM w ((w3.drew.alloc (.cells #[.int .i64 wt, .int .i64 V] 35)).alloc (.cells #[.int .i64 0, .int .i64 0] 30)) (w.heap.size + 1) w.heap.size L T A) := MA.out.under ((Below.refl _ _).alloc (Nat.le_refl _) _)
        have BB := Lib.hid (BA.out.alloc (.cells #[.int .i64 0, .int .i64 0] 30))
        have RA := Lib.hid (Box.new (w3.drew.alloc (.cells #[.int .i64 wt, .int .i64 V] 35)) 30 #[.int .i64 0, .int .i64 0] rfl)
        refine hK _ _ (fun _ => hole_cellT MB.out.h) ?_
        clear hK
        refine AnyBut.only (i := 13) (by decide +kernel) rfl rfl (fun K hK => ?_)
        go_simp
        refine (HPR.out _ _ _ MB.out.s BB.out).mono ?_
        rintro e w4 ⟨rfl, hb⟩
        have MC : Hid (TopM w w4 (w.heap.size + 1) w.heap.size L T A) := MB.out.under hb
        have RB : Hid (Box w4 (w3.heap.size + 1) 30 #[.int .i64 0, .int .i64 0]) := by have h := RA.out.under hb; simpa [Hid] using h
        have hlt : w.heap.size ≤ w3.heap.size + 1 := by have h : w.heap.size ≤ w3.heap.size := hlw; omega
        refine hK _ _ (fun _ => hole_cellT MC.out.h) ?_
        clear hK
        clear hb MA MD BA SS MB BB RA HPR
        refine AnyBut.takeD 14 50 (v := .tuple #[.agg #[.int .i64 S, .int .i64 S], .int .i64 0]) rfl rfl (by decide +kernel) (fun _ _ _ h => h) (hole_cellT MC.out.h) (Or.inl ⟨by rfl, fun w' hw' => by go_simp⟩) ?_
        simp only [List.setIfInBounds_toArray, List.set_cons_zero, List.set_cons_succ]
        refine AnyBut.takeD 15 65 (v := .agg #[.int .i64 S, .int .i64 S]) rfl rfl (by decide +kernel) (fun _ _ _ h => h) (hole_cellT MC.out.h) (Or.inl ⟨by rfl, fun w' hw' => by go_simp⟩) ?_
        simp only [List.setIfInBounds_toArray, List.set_cons_zero, List.set_cons_succ]
        refine AnyBut.takeD 16 66 (v := .int .i64 0) rfl rfl (by decide +kernel) (fun _ _ _ h => h) (hole_cellT MC.out.h) (Or.inl ⟨by rfl, fun w' hw' => by go_simp⟩) ?_
        simp only [List.setIfInBounds_toArray, List.set_cons_zero, List.set_cons_succ]
        obtain ⟨y0, y1⟩ := rng_cellsT RB.out
        have f0 := RB.out.frozen 0
        have f1 := RB.out.frozen 1
        have NB := apartT MC.out.h RB.out (by decide)
        have SP := hole_cellT ((MC.out.h.far (p := ⟨w3.heap.size + 1, 0, none⟩) NB (.int .i64 S)).far (p := ⟨w3.heap.size + 1, 1, none⟩) NB (.int .i64 S))
        refine AnyBut.only (i := 18) (by decide +kernel) rfl rfl (fun K hK => ?_)
        go_simp
        refine hK _ _ (fun _ => SP) ?_
        clear hK
        refine AnyBut.only (i := 19) (by decide +kernel) rfl rfl (fun K hK => ?_)
        go_simp
        refine hK _ _ (fun _ => SP) ?_
        clear hK
        refine AnyBut.done (by decide +kernel) ?_
        go_wp2_with fail
        go_meet
        exact ⟨_, rfl, rfl, by (unfold Hid; simpa using (RB.out.set_ 0 (.int .i64 S)).set_ 1 (.int .i64 S)), (MC.out.low.setCell (p := ⟨w3.heap.size + 1, 0, none⟩) hlt _).setCell (p := ⟨w3.heap.size + 1, 1, none⟩) hlt _⟩
    · skip
      go_simp
      have MA : Hid (TopM w (w3.drew.alloc (.cells #[.int .i64 0, .int .i64 0] 30)) (w.heap.size + 1) w.heap.size L T A) := MD.out.under ((Below.refl _ _).alloc (Nat.le_refl _) _)
      have RA := Lib.hid (Box.new w3.drew 30 #[.int .i64 0, .int .i64 0] rfl)
      refine hK _ _ (fun _ => hole_cellT MA.out.h) ?_
      clear hK
      refine AnyBut.only (i := 4) (by decide +kernel) rfl rfl (fun K hK => ?_)
      go_simp
      have MB : Hid (TopM w ((w3.drew.alloc (.cells #[.int .i64 0, .int .i64 0] 30)).alloc (.cells #[.int .i64 wt, .int .i64 V] 35)) (w.heap.size + 1) w.heap.size L T A) := MA.out.under ((Below.refl _ _).alloc (Nat.le_refl _) _)
      have RB0 := Lib.hid (RA.out.alloc (.cells #[.int .i64 wt, .int .i64 V] 35))
      have BB : Hid (Box ((w3.drew.alloc (.cells #[.int .i64 0, .int .i64 0] 30)).alloc (.cells #[.int .i64 wt, .int .i64 V] 35)) (w3.heap.size + 1) 35 #[.int .i64 wt, .int .i64 V]) := by have h := Box.new (w3.drew.alloc (.cells #[.int .i64 0, .int .i64 0] 30)) 35 #[.int .i64 wt, .int .i64 V] rfl; simpa [Hid] using h
      refine hK _ _ (fun _ => hole_cellT MB.out.h) ?_
      clear hK
      refine AnyBut.only (i := 13) (by decide +kernel) rfl rfl (fun K hK => ?_)
      go_simp
      refine (HPR.out _ _ _ MB.out.s BB.out).mono ?_
      rintro e w4 ⟨rfl, hb⟩
      have MC : Hid (TopM w w4 (w.heap.size + 1) w.heap.size L T A) := MB.out.under hb
      have RB : Hid (Box w4 w3.heap.size 30 #[.int .i64 0, .int .i64 0]) := by have h := RB0.out.under hb; simpa [Hid] using h
      have hlt : w.heap.size ≤ w3.heap.size := hlw
      refine hK _ _ (fun _ => hole_cellT MC.out.h) ?_
      clear hK
      clear hb MA MD SS MB BB RA RB0 HPR
      refine AnyBut.takeD 14 50 (v := .tuple #[.agg #[.int .i64 S, .int .i64 S], .int .i64 0]) rfl rfl (by decide +kernel) (fun _ _ _ h => h) (hole_cellT MC.out.h) (Or.inl ⟨by rfl, fun w' hw' => by go_simp⟩) ?_
      simp only [List.setIfInBounds_toArray, List.set_cons_zero, List.set_cons_succ]
      refine AnyBut.takeD 15 65 (v := .agg #[.int .i64 S, .int .i64 S]) rfl rfl (by decide +kernel) (fun _ _ _ h => h) (hole_cellT MC.out.h) (Or.inl ⟨by rfl, fun w' hw' => by go_simp⟩) ?_
      simp only [List.setIfInBounds_toArray, List.set_cons_zero, List.set_cons_succ]
      refine AnyBut.takeD 16 66 (v := .int .i64 0) rfl rfl (by decide +kernel) (fun _ _ _ h => h) (hole_cellT MC.out.h) (Or.inl ⟨by rfl, fun w' hw' => by go_simp⟩) ?_
      simp only [List.setIfInBounds_toArray, List.set_cons_zero, List.set_cons_succ]
      obtain ⟨y0, y1⟩ := rng_cellsT RB.out
      have f0 := RB.out.frozen 0
      have f1 := RB.out.frozen 1
      have NB := apartT MC.out.h RB.out (by decide)
      have SP := hole_cellT ((MC.out.h.far (p := ⟨w3.heap.size, 0, none⟩) NB (.int .i64 S)).far (p := ⟨w3.heap.size, 1, none⟩) NB (.int .i64 S))
      refine AnyBut.only (i := 18) (by decide +kernel) rfl rfl (fun K hK => ?_)
      go_simp
      refine hK _ _ (fun _ => SP) ?_
      clear hK
      refine AnyBut.only (i := 19) (by decide +kernel) rfl rfl (fun K hK => ?_)
      go_simp
      refine hK _ _ (fun _ => SP) ?_
      clear hK
      refine AnyBut.done (by decide +kernel) ?_
      go_wp2_with fail
      go_meet
      exact ⟨_, rfl, rfl, by (unfold Hid; simpa using (RB.out.set_ 0 (.int .i64 S)).set_ 1 (.int .i64 S)), (MC.out.low.setCell (p := ⟨w3.heap.size, 0, none⟩) hlt _).setCell (p := ⟨w3.heap.size, 1, none⟩) hlt _⟩
  case rest =>
  obtain ⟨gx, rfl, rfl, RX, LX⟩ := hcut
  clear M HPR
  go_wp2_with fail
  refine (HST.out _).mono ?_
  rintro e w5 ⟨rfl, hb5⟩
  have R5 := Lib.hid (RX.out.under hb5)
  have L5 := Lib.hid (LX.out.trans (hb5.mono LX.out.size))
  obtain ⟨y0, y1⟩ := rng_cellsT R5.out
  clear hb5 RX LX HST
  go_wp2_with fail
  refine (top_awake _).mono ?_
  rintro e w6 ⟨rfl, hb6⟩
  go_wp2_with fail
  go_ret
  exact ⟨rfl, L5.out.trans (hb6.mono L5.out.size)⟩

end Go.Proofs.Ytnhnheigdlnokaa
