/- The law CasingRises, walked. -/
import Derived.Test.YtbbgbidpglhkfaaPackCement
import Derived.Deep.DeepCutAuto
namespace Mpl
theorem cement_rises {l : List Seg} (g : GoodHole l) {v m : Int} (h0 : 0 ≤ v) (h1 : v ≤ m) (h2 : m ≤ sizeUp l l.length) :
    (cement l v).2 = 0 ∧ (cement l m).2 = 0 ∧ (cement l (sizeUp l l.length)).2 = 0 ∧ (cement l v).1.Lo ≤ (cement l m).1.Lo ∧ (cement l v).1.Hi ≤ (cement l m).1.Hi ∧ (cement l (sizeUp l l.length)).1 = ⟨riseUp l l.length, riseUp l l.length⟩ := by
  rw [cement_good g h0 (by omega), cement_good g (by omega) h2, cement_good g (by omega) (Int.le_refl _), height_top g]
  have := height_mono g h1
  exact ⟨rfl, rfl, rfl, this.1, this.2, rfl⟩
end Mpl
namespace Go.Proofs.Ytbbgbidpglhkfaa
open Go.RowKit Go.Shelf Mpl

set_option maxHeartbeats 8000000 in
set_option maxRecDepth 100000 in
theorem walk_CasingRises (l : List Int) (A : Option Addr) (c : Nat) (a0 b0 : Int) (w : World) (hl : Ints w w.heap.size A l) (hlin : IntsIn l) (hc : l.length ≤ c) (hm : c ≤ maxLen) (ha : inI64 a0) (hb : inI64 b0) :
    Calls Try.prog 4 #[.slice A l.length c, .int .i64 a0, .int .i64 b0] w fun e w' => e = .returned (.bool true) ∧ Below w.heap.size w w' := by
  have HAN := Lib.hid (kit_Annulus l A c w hl hlin (by omega))
  have K1 := Lib.hid (fun V w (hV : 0 < V) (hV2 : V ≤ 5242880001) => kit_Mod64 a0 V w ha hV (by omega))
  have K2 := Lib.hid (fun V w (hV : 0 < V) (hV2 : V ≤ 5242880001) => kit_Mod64 b0 V w hb hV (by omega))
  have hq := run_eql_rngC
  clear hl hlin ha hb
  generalize l.length = nl at *
  go_enter Try.func4, Try.ntmps4
  go_wp2_with fail
  refine HAN.out.mono ?_
  rintro e w1 ⟨⟨A', c', h, rfl, hown, hann⟩, hb1⟩
  have gh := hann.good
  obtain ⟨w2, hw2⟩ : ∃ w2, w1.alloc (.cells #[.slice A' h.length c'] 24) = w2 := ⟨_, rfl⟩
  have HV := Lib.hid (show HoleV w2 w2.heap.size (.agg #[.slice A' h.length c']) h by rw [← hw2]; exact (own_hole hown).alloc _)
  have BX := Lib.hid (show Box w2 w1.heap.size 24 #[.slice A' h.length c'] by rw [← hw2]; exact Box.new _ _ _ rfl)
  have HB := Lib.hid (show Below w.heap.size w w2 by rw [← hw2]; exact hb1.alloc hb1.size _)
  have HW2 := Lib.hid hw2
  have hV := (gh.ups h.length (Nat.le_refl _)).2.2.2.2.2
  have hV1 := hann.one_le
  have hpos := hann.pos
  have hfew := hann.few
  have hmax : h.length ≤ maxLen := by unfold maxLen; omega
  have HVO := Lib.hid (fun W (hW : Below w2.heap.size w2 W) => (by have := fluid_Volume _ h W (HV.out.below hW) gh.in_ hmax; rw [volume_good gh] at this; exact this : Calls Try.prog 10 #[.agg #[.slice A' h.length c']] W fun e w' => e = .returned (.int .i64 (sizeUp h h.length)) ∧ Below W.heap.size W w'))
  have HCE := Lib.hid (fun v W (hW : Below w2.heap.size w2 W) => casing_Cement _ h v W (HV.out.below hW) gh.in_ hmax)
  have HLAW := Lib.hid (fun v m h0 h1 h2 => cement_rises gh (v := v) (m := m) h0 h1 h2)
  have HRS := Lib.hid (fun k => riseUp_step h k)
  have HRB := Lib.hid (fun k (hk : k ≤ h.length) => (gh.ups k hk))
  have HSG := Lib.hid (HV.out)
  have HGF := Lib.hid (fun i (hi : i < h.length) => gh.fair i hi)
  clear hw2 hb1 hown hann gh HAN
  obtain ⟨A2, c2, hv2, hS⟩ := HSG.out
  injection hv2 with hv2
  injection hv2 with hv2
  simp at hv2
  obtain ⟨rfl, rfl⟩ := hv2
  obtain ⟨sb, so, rfl, hsb, hsc⟩ := hS hpos
  have HSC := Lib.hid hsc
  clear hsc hS HSG HV
  generalize hV' : sizeUp h h.length = V at *
  generalize hn : h.length = n at *
  clear hn hV'
  have z0 : decide (V < 1) = false := decide_eq_false (by omega)
  have z1 : IntKind.i64.wrap (V + 1) = V + 1 := IntWalk.i64_in _ (by omega)
  have q0 := hole_box BX.out
  go_upto_region 2 with fail
  rw [HW2.out]
  go_wp2_with fail
  refine (HVO.out _ (Below.refl _ _)).mono ?_
  rintro e w3 ⟨rfl, hb3⟩
  have B3 := Lib.hid hb3
  clear hb3 q0
  have hu0 := Int.emod_nonneg a0 (show V + 1 ≠ 0 by omega)
  have hu1 := Int.emod_lt_of_pos a0 (show 0 < V + 1 by omega)
  have M1 := Lib.hid (fun w => K1.out (V + 1) w (by omega) (by omega))
  generalize a0 % (V + 1) = u at *
  clear K1
  have hx0 := Int.emod_nonneg b0 (show V - u + 1 ≠ 0 by omega)
  have hx1 := Int.emod_lt_of_pos b0 (show 0 < V - u + 1 by omega)
  have M2 := Lib.hid (fun w => K2.out (V - u + 1) w (by omega) (by omega))
  generalize b0 % (V - u + 1) = d at *
  clear K2
  have z2 : IntKind.i64.wrap (V - u) = V - u := IntWalk.i64_in _ (by omega)
  have z3 : IntKind.i64.wrap (V - u + 1) = V - u + 1 := IntWalk.i64_in _ (by omega)
  have z4 : IntKind.i64.wrap (u + d) = u + d := IntWalk.i64_in _ (by omega)
  go_wp2_with fail
  refine (M1.out _).mono ?_
  rintro e w' ⟨rfl, rfl⟩
  go_wp2_with fail
  refine (M2.out _).mono ?_
  rintro e w' ⟨rfl, rfl⟩
  go_wp2_with fail
  obtain ⟨l1, l2, l3, l4, l5, l6⟩ := HLAW.out u (u + d) hu0 (by omega) (by omega)
  have HC1 := Lib.hid (HCE.out u)
  have HC2 := Lib.hid (HCE.out (u + d))
  have HC3 := Lib.hid (HCE.out V)
  have X3 := Lib.hid (BX.out.under B3.out)
  clear z0 z1 z2 z3 z4 HLAW HCE M1 M2 BX HVO
  go_loop [9, 10] (fun s9 s10 => ∃ k : Nat, k ≤ n ∧ s10 = .int .i64 k ∧ s9 = .int .i64 (riseUp h k)) (fun _ s10 => n - (intOf s10).toNat)
  case atStart => exact ⟨0, Nat.zero_le _, rfl, rfl⟩
  case round =>
    obtain ⟨k, hk, rfl, rfl⟩ := hrel
    have q0 := hole_box X3.out
    by_cases hlt : k < n
    · obtain ⟨c0, c1, c2, c3⟩ := HSC.out k hlt
      have d1 := oldCell B3.out hsb c1
      have t0 : decide (k < n) = true := decide_eq_true hlt
      have b1 : (k : Int) < (n : Int) := by omega
      have hr0 := HRB.out k (by omega)
      have hst := HRS.out k
      have hg1 := (HGF.out k hlt).rise0
      have hr1 := HRB.out (k + 1) (by omega)
      rw [hst] at hr1
      obtain ⟨_, v1, v2, v3, _, _⟩ := hr0
      obtain ⟨_, v4, v5, v6, _, _⟩ := hr1
      have HQ := Lib.hid hst
      clear c0 c1 c2 c3 hst
      generalize riseUp h k = rr at *
      generalize (sg h k).Rise = rs at *
      generalize longUp h k = lu at *
      generalize longUp h (k + 1) = lu2 at *
      go_wp2_with fail
      go_round
      case rel => exact ⟨k + 1, hlt, by go_num, by rw [HQ.out]⟩
      case measure => simp [intOf]; omega
    · obtain rfl : k = n := by omega
      have t0 : decide (k < k) = false := decide_eq_false hlt
      clear HRS HRB HGF HSC hlt hk
      generalize riseUp h k = R at *
      rw [l1] at HC1
      rw [l2] at HC2
      rw [l3, l6] at HC3
      generalize cement h u = ca at *
      generalize cement h (u + d) = cb at *
      generalize u + d = m at *
      clear l1 l2 l3 l6
      obtain ⟨⟨alo, ahi⟩, ae⟩ := ca
      obtain ⟨⟨blo, bhi⟩, be⟩ := cb
      dsimp only at l4 l5 HC1 HC2 HC3
      go_wp2_with fail
      refine (HC1.out _ B3.out).mono ?_
      rintro e w4 ⟨rfl, hb4⟩
      have B4 := Lib.hid (B3.out.trans (hb4.mono B3.out.size))
      have X4 := Lib.hid (X3.out.under hb4)
      obtain ⟨w5, hw5⟩ : ∃ w5, w4.alloc (.cells #[.int .i64 alo, .int .i64 ahi] 27) = w5 := ⟨_, rfl⟩
      have hb5 : Below w4.heap.size w4 w5 := by rw [← hw5]; exact (Below.refl _ _).alloc (Nat.le_refl _) _
      have R5 := Lib.hid (show Box w5 w4.heap.size 27 #[.int .i64 alo, .int .i64 ahi] by rw [← hw5]; exact Box.new _ _ _ rfl)
      have B5 := Lib.hid (B4.out.trans (hb5.mono B4.out.size))
      have X5 := Lib.hid (X4.out.under hb5)
      have HW5 := Lib.hid hw5
      clear hw5 hb4 hb5 q0
      have q0 := hole_box X5.out
      go_upto_region 13 with fail
      rw [HW5.out]
      go_wp2_with fail
      refine (HC2.out _ B5.out).mono ?_
      rintro e w6 ⟨rfl, hb6⟩
      have B6 := Lib.hid (B5.out.trans (hb6.mono B5.out.size))
      have X6 := Lib.hid (X5.out.under hb6)
      have R6 := Lib.hid (R5.out.under hb6)
      obtain ⟨w7, hw7⟩ : ∃ w7, w6.alloc (.cells #[.int .i64 blo, .int .i64 bhi] 27) = w7 := ⟨_, rfl⟩
      have hb7 : Below w6.heap.size w6 w7 := by rw [← hw7]; exact (Below.refl _ _).alloc (Nat.le_refl _) _
      have S7 := Lib.hid (show Box w7 w6.heap.size 27 #[.int .i64 blo, .int .i64 bhi] by rw [← hw7]; exact Box.new _ _ _ rfl)
      have B7 := Lib.hid (B6.out.trans (hb7.mono B6.out.size))
      have X7 := Lib.hid (X6.out.under hb7)
      have R7 := Lib.hid (R6.out.under hb7)
      have HW7 := Lib.hid hw7
      clear hw7 hb6 hb7 q0
      have q0 := hole_box X7.out
      go_upto_region 14 with fail
      rw [HW7.out]
      go_wp2_with fail
      refine (HC3.out _ B7.out).mono ?_
      rintro e w8 ⟨rfl, hb8⟩
      have B8 := Lib.hid (B7.out.trans (hb8.mono B7.out.size))
      have R8 := Lib.hid (R7.out.under hb8)
      have S8 := Lib.hid (S7.out.under hb8)
      obtain ⟨w9, hw9⟩ : ∃ w9, w8.alloc (.cells #[.int .i64 R, .int .i64 R] 27) = w9 := ⟨_, rfl⟩
      have hb9 : Below w8.heap.size w8 w9 := by rw [← hw9]; exact (Below.refl _ _).alloc (Nat.le_refl _) _
      have T9 := Lib.hid (show Box w9 w8.heap.size 27 #[.int .i64 R, .int .i64 R] by rw [← hw9]; exact Box.new _ _ _ rfl)
      have B9 := Lib.hid (B8.out.trans (hb9.mono B8.out.size))
      have R9 := Lib.hid (R8.out.under hb9)
      have S9 := Lib.hid (S8.out.under hb9)
      have HW9 := Lib.hid hw9
      clear hw9 hb8 hb9 q0
      have x0 := (show w9.cell? ⟨w4.heap.size, 0, none⟩ = some (.int .i64 alo) from R9.out.cell 0)
      have x1 := (show w9.cell? ⟨w4.heap.size, 1, none⟩ = some (.int .i64 ahi) from R9.out.cell 1)
      have x2 := (show w9.cell? ⟨w6.heap.size, 0, none⟩ = some (.int .i64 blo) from S9.out.cell 0)
      have x3 := (show w9.cell? ⟨w6.heap.size, 1, none⟩ = some (.int .i64 bhi) from S9.out.cell 1)
      have x4 := (show w9.cell? ⟨w8.heap.size, 0, none⟩ = some (.int .i64 R) from T9.out.cell 0)
      have x5 := (show w9.cell? ⟨w8.heap.size, 1, none⟩ = some (.int .i64 R) from T9.out.cell 1)
      have y1 : decide (alo ≤ blo) = true := decide_eq_true l4
      have y2 : decide (ahi ≤ bhi) = true := decide_eq_true l5
      have y3 : (R == R) = true := beq_self_eq_true R
      go_upto_region 15 with fail
      rw [HW9.out]
      go_wp2_with fail
      refine (law05_awake _).mono ?_
      rintro e wa ⟨rfl, hba⟩
      go_wp2_with fail
      go_ret
      have f1 := HB.out.trans (B9.out.mono HB.out.size)
      exact ⟨rfl, f1.trans (hba.mono f1.size)⟩

end Go.Proofs.Ytbbgbidpglhkfaa
