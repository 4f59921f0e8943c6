/- The law FluidBubbles, walked. -/
import Derived.Test.YtkommjjpaklenaaFSmall
import Derived.Test.YtkommjjpaklenaaFAwake
import Derived.Test.YtkommjjpaklenaaFOpen
import Derived.Test.YtkommjjpaklenaaInv
import Derived.Test.YtkommjjpaklenaaMod
import Derived.StillTactics
namespace Go.Proofs.Ytkommjjpaklenaa
open Go.RowKit Go.Shelf Go.Deep Mpl

theorem space_bound (g : Gas) {p : Int} (hp : 1 ≤ p) : 0 ≤ (space g p).Lo ∧ (space g p).Lo ≤ 1152921504606846976 ∧ 0 ≤ (space g p).Hi ∧ (space g p).Hi ≤ 1152921504606846976 := by
  obtain ⟨f0, f1⟩ := free_bound g p
  rw [space_eq g hp]
  have h1 : 0 ≤ free g p / p := Int.ediv_nonneg f0 (by omega)
  have h2 := Int.ediv_le_self p f0
  have h3 := upDiv_nonneg f0 (show 0 < p by omega)
  have h4 : upDiv (free g p) p ≤ free g p := upDiv_le (by omega) (by have := Int.mul_le_mul_of_nonneg_left hp f0; omega)
  exact ⟨h1, by show free g p / p ≤ _; omega, h3, by show upDiv _ _ ≤ _; omega⟩

theorem gas_cells {w : World} {g : Nat} {a b : Value} (h : Box w g 69 #[a, b]) : w.cell? ⟨g, 0, none⟩ = some a ∧ w.cell? ⟨g, 1, none⟩ = some b := ⟨h.cell 0, h.cell 1⟩
theorem gas_free {w : World} {g : Nat} {a b : Value} (h : Box w g 69 #[a, b]) : w.frozen? ⟨g, 0, none⟩ = false ∧ w.frozen? ⟨g, 1, none⟩ = false := ⟨h.frozen 0, h.frozen 1⟩

theorem two_of_size {cs : Array Value} {a b : Value} (h : cs.size = (#[a, b] : Array Value).size) : ∃ x y, cs = #[x, y] := by
  obtain ⟨l⟩ := cs
  match l, h with
  | [x, y], _ => exact ⟨x, y, rfl⟩
def keyTwo (i : Nat) (d1 d2 a1 a2 : Bool) : Bool := (i == 2 && !d1) || (i == 7 && d1 && !d2) || (i == 8 && !a1) || (i == 9 && !a2) || (i == 10 && d1 && a1) || (i == 11 && d2 && a2)
theorem rng_box2 {w : World} {g : Nat} {a b : Value} (h : Box w g 34 #[a, b]) : w.cell? ⟨g, 0, none⟩ = some a ∧ w.cell? ⟨g, 1, none⟩ = some b := ⟨h.cell 0, h.cell 1⟩
theorem rng_free2 {w : World} {g : Nat} {a b : Value} (h : Box w g 34 #[a, b]) : w.frozen? ⟨g, 0, none⟩ = false ∧ w.frozen? ⟨g, 1, none⟩ = false := ⟨h.frozen 0, h.frozen 1⟩
theorem rng_put {W : World} {g : Nat} {x y : Value} (hx : Box W g 34 #[x, y]) (a b : Value) : Box ((W.setCell ⟨g, 0, none⟩ a).setCell ⟨g, 1, none⟩ b) g 34 #[a, b] := by simpa using (hx.set_ 0 a).set_ 1 b
theorem put_far {W : World} {g : Nat} (a b : Value) (g' t' : Nat) (cs' : Array Value) (hne : g' ≠ g) (h : Box W g' t' cs') : Box ((W.setCell ⟨g, 0, none⟩ a).setCell ⟨g, 1, none⟩ b) g' t' cs' := (h.far hne _).far hne _

set_option maxHeartbeats 8000000 in
set_option maxRecDepth 100000 in
theorem walk_FluidBubbles (g0 : Gas) (p0 m0 : Int) (w : World) (hin : GasNum g0) (hp : inI64 p0) (hm : inI64 m0) :
    Calls Try.prog 11 #[gasV g0, .int .i64 p0, .int .i64 m0] w fun e w' => e = .returned (.bool true) ∧ Below w.heap.size w w' := by
  obtain ⟨hk, hpw⟩ := hin
  have K1 := Lib.hid (fun w => quiet_of (kit_Mod64 g0.K 1152921504606846976 w hk (by omega) (by omega)))
  have K2 := Lib.hid (fun w => quiet_of (kit_Mod64 g0.Power 1099511627776 w hpw (by omega) (by omega)))
  have K3 := Lib.hid (fun w => kit_Mod64 p0 34359738368 w hp (by omega) (by omega))
  have K4 := Lib.hid (fun w => kit_Mod64 m0 34359738368 w hm (by omega) (by omega))
  have k0 := Int.emod_nonneg g0.K (show (1152921504606846976 : Int) ≠ 0 by omega)
  have k1 := Int.emod_lt_of_pos g0.K (show (0 : Int) < 1152921504606846976 by omega)
  have k2 := Int.emod_nonneg g0.Power (show (1099511627776 : Int) ≠ 0 by omega)
  have k3 := Int.emod_lt_of_pos g0.Power (show (0 : Int) < 1099511627776 by omega)
  have k4 := Int.emod_nonneg p0 (show (34359738368 : Int) ≠ 0 by omega)
  have k5 := Int.emod_lt_of_pos p0 (show (0 : Int) < 34359738368 by omega)
  have k6 := Int.emod_nonneg m0 (show (34359738368 : Int) ≠ 0 by omega)
  have k7 := Int.emod_lt_of_pos m0 (show (0 : Int) < 34359738368 by omega)
  generalize hKK : g0.K % 1152921504606846976 = KK at *
  generalize hPP : g0.Power % 1099511627776 = PP at *
  generalize hpp : p0 % 34359738368 = pp at *
  generalize hmm : m0 % 34359738368 = more at *
  clear hKK hPP hpp hmm hp hm
  have hgas : GasIn ⟨KK, PP⟩ := ⟨k0, by show KK ≤ _; omega, k2, by show PP ≤ _; omega⟩
  have hbub : Bubbly ⟨KK, PP⟩ (1 + pp) more := ⟨hgas, by omega, by omega, by omega, by omega⟩
  have SP1 := Lib.hid (fun w => fluid_Space ⟨KK, PP⟩ (1 + pp) w)
  have SP2 := Lib.hid (fun w => fluid_Space ⟨KK, PP⟩ (1 + pp + more) w)
  have HFR := Lib.hid (fun p w => fluid_Free ⟨KK, PP⟩ p w)
  have HBU := Lib.hid (fun w => fluid_Bubble ⟨KK, PP⟩ w)
  obtain ⟨sb1, sb2, sb3, sb4⟩ := space_bound ⟨KK, PP⟩ (show 1 ≤ 1 + pp by omega)
  obtain ⟨sc1, sc2, sc3, sc4⟩ := space_bound ⟨KK, PP⟩ (show 1 ≤ 1 + pp + more by omega)
  obtain ⟨l1, l2, l3, l4⟩ := space_laws hbub
  have l5 := free_mono hgas (show 1 ≤ 1 + pp by omega) (show 1 + pp ≤ 1 + pp + more by omega) (by omega)
  have l6 : free ⟨KK, PP⟩ (1 + pp) ≤ KK := free_le hgas (by omega) (by omega)
  have BL := Lib.hid (bubble_laws hgas)
  unfold gasV at *
  generalize (space ⟨KK, PP⟩ (1 + pp)).Lo = alo at *
  generalize (space ⟨KK, PP⟩ (1 + pp)).Hi = ahi at *
  generalize (space ⟨KK, PP⟩ (1 + pp + more)).Lo = blo at *
  generalize (space ⟨KK, PP⟩ (1 + pp + more)).Hi = bhi at *
  have hk0 := Lib.hid hgas
  clear hgas hbub
  obtain ⟨w0, hw0⟩ : ∃ w0, w.alloc (.cells #[.int .i64 g0.K, .int .i64 g0.Power] 69) = w0 := ⟨_, rfl⟩
  have b0 : Box w0 w.heap.size 69 #[.int .i64 g0.K, .int .i64 g0.Power] := by rw [← hw0]; exact Box.new w _ _ rfl
  have hB0 : Below w.heap.size w w0 := by rw [← hw0]; exact (by repeat (first | exact Below.refl _ _ | assumption | refine Below.setCell ?_ (by first | (simp; done) | (simp; omega)) _ | refine belowDrewN ?_ _ | refine Below.drew ?_ | refine Below.alloc ?_ (by first | (simp; done) | (simp; omega)) _))
  have HW0 := Lib.hid hw0
  have B0 := Lib.hid b0
  have HB0 := Lib.hid hB0
  obtain ⟨q0, q1⟩ := gas_cells b0
  obtain ⟨f0, f1⟩ := gas_free b0
  clear hw0 b0 hB0
  go_enter Try.func11, Try.ntmps11
  go_upto_region 1 with fail
  rw [HW0.out]
  go_cut [] (fun wx => Hid (Box wx w.heap.size 69 #[.int .i64 KK, .int .i64 PP]) ∧ Hid (Below w.heap.size w wx))
  case first =>
    refine wp_region_still_tail 7 mixed (by kernel_rfl) ?_
    simp only [List.take_succ_cons, List.take_zero, List.drop_succ_cons, List.drop_zero]
    repeat still_step
    still_call (K1.out _)
    repeat still_step
    still_call (K2.out _)
    repeat still_step
    refine wpStill_nil ?_
    change wpList _ _ _ _ _ w0.drew
    go_wp2_with fail
    go_meet
    have bb := (B0.out.set_ 0 (.int .i64 KK)).set_ 1 (.int .i64 PP)
    exact ⟨by simpa [Hid] using bb.drew, ((HB0.out.setCell (p := ⟨w.heap.size, 0, none⟩) (Nat.le_refl _) _).setCell (p := ⟨w.heap.size, 1, none⟩) (Nat.le_refl _) _).drew⟩
  case rest =>
    obtain ⟨B1, HB1⟩ := hcut
    clear q0 q1 f0 f1 B0 HB0 HW0
    go_wp2_with fail
    refine (K3.out _).mono ?_
    rintro e w' ⟨rfl, rfl⟩
    go_wp2_with fail
    refine (K4.out _).mono ?_
    rintro e w' ⟨rfl, rfl⟩
    obtain ⟨q0, q1⟩ := gas_cells B1.out
    have hwp : IntKind.i64.wrap (1 + pp + more) = 1 + pp + more := IntWalk.i64_in _ (by omega)
    go_upto_region 4 with fail
    clear q0 q1
    have HS := Lib.hid (fun W (h0 : Box W w.heap.size 69 #[.int .i64 KK, .int .i64 PP]) => gas_cells h0)
    have D1 := B1.out.drew
    have L1 := HB1.out.drew
    go_cut [7, 8] (fun s7 s8 wx => ∃ g7 g8, s7 = .pointer (some ⟨g7, 0, none⟩) ∧ s8 = .pointer (some ⟨g8, 0, none⟩) ∧ w.heap.size < g7 ∧ w.heap.size < g8 ∧ Hid (Box wx g7 34 #[.int .i64 alo, .int .i64 ahi]) ∧ Hid (Box wx g8 34 #[.int .i64 blo, .int .i64 bhi]) ∧ Hid (Box wx w.heap.size 69 #[.int .i64 KK, .int .i64 PP]) ∧ Hid (Below w.heap.size w wx))
    case first =>
      refine AnyBut.begin (S := fun w' : World => w'.cell? ⟨w.heap.size, 0, none⟩ = some (.int .i64 KK) ∧ w'.cell? ⟨w.heap.size, 1, none⟩ = some (.int .i64 PP)) (z := 100) mixed ?_
      refine AnyBut.take (i := 0) (v := .agg #[.int .i64 KK, .int .i64 PP]) rfl (by decide +kernel) (by decide +kernel) (by decide +kernel) (by decide +kernel) (fun _ _ _ h => h) (HS.out _ D1) (Or.inl ⟨by simp [Region.wanted], fun w' hw' => by (obtain ⟨s0, s1⟩ := hw'; go_simp)⟩) ?_
      refine AnyBut.take (i := 1) (v := .int .i64 (1 + pp)) rfl (by decide +kernel) (by decide +kernel) (by decide +kernel) (by decide +kernel) (fun _ _ _ h => h) (HS.out _ D1) (Or.inl ⟨by simp [Region.wanted], fun w' hw' => by (obtain ⟨s0, s1⟩ := hw'; go_simp)⟩) ?_
      refine AnyBut.take (i := 3) (v := .agg #[.int .i64 KK, .int .i64 PP]) rfl (by decide +kernel) (by decide +kernel) (by decide +kernel) (by decide +kernel) (fun _ _ _ h => h) (HS.out _ D1) (Or.inl ⟨by simp [Region.wanted], fun w' hw' => by (obtain ⟨s0, s1⟩ := hw'; go_simp)⟩) ?_
      refine AnyBut.take (i := 4) (v := .int .i64 (1 + pp)) rfl (by decide +kernel) (by decide +kernel) (by decide +kernel) (by decide +kernel) (fun _ _ _ h => h) (HS.out _ D1) (Or.inl ⟨by simp [Region.wanted], fun w' hw' => by (obtain ⟨s0, s1⟩ := hw'; go_simp)⟩) ?_
      refine AnyBut.take (i := 5) (v := .int .i64 more) rfl (by decide +kernel) (by decide +kernel) (by decide +kernel) (by decide +kernel) (fun _ _ _ h => h) (HS.out _ D1) (Or.inl ⟨by simp [Region.wanted], fun w' hw' => by (obtain ⟨s0, s1⟩ := hw'; go_simp)⟩) ?_
      refine AnyBut.take (i := 6) (v := .int .i64 (1 + pp + more)) rfl (by decide +kernel) (by decide +kernel) (by decide +kernel) (by decide +kernel) (fun _ _ _ h => h) (HS.out _ D1) (Or.inl ⟨by simp [Region.wanted], fun w' hw' => by (obtain ⟨s0, s1⟩ := hw'; go_simp)⟩) ?_
      refine at_act fun a' ha' => ?_
      simp [Act.put] at ha'
      subst ha'
      refine any_from (F := fun b0 a0 b a W => ∃ (d1 d2 a1 a2 s1 s2 : Bool) (v1 v2 p1 p2 : Value), b = ((((((b0.setIfInBounds 2 d1).setIfInBounds 7 d2).setIfInBounds 8 a1).setIfInBounds 9 a2).setIfInBounds 10 s1).setIfInBounds 11 s2) ∧ a = { tmps := ((((a0.tmps.setIfInBounds 25 v1).setIfInBounds 30 v2).setIfInBounds 7 p1).setIfInBounds 8 p2), defers := a0.defers }
        ∧ Box W w.heap.size 69 #[.int .i64 KK, .int .i64 PP] ∧ Below w.heap.size w W ∧ Two (w.heap.size + 1) 34 #[.int .i64 alo, .int .i64 ahi] #[.int .i64 blo, .int .i64 bhi] d1 d2 a1 a2 s1 s2 v1 v2 p1 p2 W ∧ (s1 = true → a1 = true) ∧ (s2 = true → a2 = true)) (by decide +kernel) ?h0 ?hS ?hs ?hd
      case h0 => exact ⟨false, false, false, false, false, false, u25, u30, undef, undef, by decide +kernel, by simp, D1, L1, Two.none, fun e => (by cases e), fun e => (by cases e)⟩
      case hS =>
        rintro b a W ⟨d1, d2, a1, a2, s1, s2, v1, v2, p1, p2, _, _, h, hB, ht, hc1, hc2⟩
        exact HS.out _ h
      case hs =>
        rintro b a W ⟨d1, d2, a1, a2, s1, s2, v1, v2, p1, p2, rfl, rfl, h, hB, ht, hc1, hc2⟩ i hi
        have kb : keyTwo i d1 d2 a1 a2 = true := by
          clear h hB ht hc1 hc2
          revert i
          revert d1 d2 a1 a2 s1 s2
          decide +kernel
        have key : (i = 2 ∧ d1 = false) ∨ (i = 7 ∧ d1 = true ∧ d2 = false) ∨ (i = 8 ∧ a1 = false) ∨ (i = 9 ∧ a2 = false) ∨ (i = 10 ∧ d1 = true ∧ a1 = true) ∨ (i = 11 ∧ d2 = true ∧ a2 = true) := by simpa [keyTwo, and_assoc, or_assoc] using kb
        clear kb hi
        rcases key with ⟨rfl, hk⟩ | ⟨rfl, hk⟩ | ⟨rfl, hk⟩ | ⟨rfl, hk⟩ | ⟨rfl, hk⟩ | ⟨rfl, hk⟩
        · refine ⟨_, rfl, rfl, fun K hK => ?_⟩
          go_simp
          refine (SP1.out _).mono ?_
          rintro e W' ⟨rfl, hb⟩
          refine hK _ _ ⟨true, d2, a1, a2, s1, s2, .agg #[.int .i64 alo, .int .i64 ahi], v2, p1, p2, (by clear hK K h hB ht hc1 hc2; revert d1 d2 a1 a2 s1 s2; decide +kernel), by simp, h.under hb, hB.trans (hb.mono hB.size), (ht.under hb).call1, hc1, hc2⟩
        · refine ⟨_, rfl, rfl, fun K hK => ?_⟩
          go_simp
          refine (SP2.out _).mono ?_
          rintro e W' ⟨rfl, hb⟩
          refine hK _ _ ⟨d1, true, a1, a2, s1, s2, v1, .agg #[.int .i64 blo, .int .i64 bhi], p1, p2, (by clear hK K h hB ht hc1 hc2; revert d1 d2 a1 a2 s1 s2; decide +kernel), by simp, h.under hb, hB.trans (hb.mono hB.size), (ht.under hb).call2, hc1, hc2⟩
        · have hs1 : s1 = false := by cases s1; rfl; exact absurd (hk.symm.trans (hc1 rfl)) (by decide)
          subst hk hs1
          refine ⟨_, rfl, rfl, fun K hK => ?_⟩
          go_simp
          refine hK _ _ ⟨d1, d2, true, a2, false, s2, v1, v2, .pointer (some ⟨W.heap.size, 0, none⟩), p2, (by clear hK K h hB ht hc1 hc2; revert d1 d2 a2 s2; decide +kernel), by simp, h.alloc _, hB.alloc hB.size _, ht.alloc1 #[.int .i64 0, .int .i64 0] rfl h.lt, fun _ => rfl, hc2⟩
        · have hs2 : s2 = false := by cases s2; rfl; exact absurd (hk.symm.trans (hc2 rfl)) (by decide)
          subst hk hs2
          refine ⟨_, rfl, rfl, fun K hK => ?_⟩
          go_simp
          refine hK _ _ ⟨d1, d2, a1, true, s1, false, v1, v2, p1, .pointer (some ⟨W.heap.size, 0, none⟩), (by clear hK K h hB ht hc1 hc2; revert d1 d2 a1 s1; decide +kernel), by simp, h.alloc _, hB.alloc hB.size _, ht.alloc2 #[.int .i64 0, .int .i64 0] rfl h.lt, hc1, fun _ => rfl⟩
        · obtain ⟨h1, h2⟩ := hk
          subst h1 h2
          obtain rfl := ht.r1 rfl
          obtain ⟨g, cs, rfl, hg, hx, hsz, he⟩ := ht.l1 rfl
          obtain ⟨x, y, rfl⟩ := two_of_size hsz
          obtain ⟨x0, x1⟩ := rng_box2 hx
          obtain ⟨x2, x3⟩ := rng_free2 hx
          have t1 := ht.put1 (rng_put hx (.int .i64 alo) (.int .i64 ahi)) (put_far _ _)
          refine ⟨_, rfl, rfl, fun K hK => ?_⟩
          go_simp
          refine hK _ _ ⟨true, d2, true, a2, true, s2, .agg #[.int .i64 alo, .int .i64 ahi], v2, .pointer (some ⟨g, 0, none⟩), p2, (by clear hK K h hB ht t1 hc1 hc2 he; revert d2 a2 s1 s2; decide +kernel), by simp, put_far _ _ _ _ _ (by omega) h, (hB.setCell (p := ⟨g, 0, none⟩) (by simp; omega) _).setCell (p := ⟨g, 1, none⟩) (by simp; omega) _, t1, fun _ => rfl, hc2⟩
        · obtain ⟨h1, h2⟩ := hk
          subst h1 h2
          obtain rfl := ht.r2 rfl
          obtain ⟨g, cs, rfl, hg, hx, hsz, he⟩ := ht.l2 rfl
          obtain ⟨x, y, rfl⟩ := two_of_size hsz
          obtain ⟨x0, x1⟩ := rng_box2 hx
          obtain ⟨x2, x3⟩ := rng_free2 hx
          have t1 := ht.put2 (rng_put hx (.int .i64 blo) (.int .i64 bhi)) (put_far _ _)
          refine ⟨_, rfl, rfl, fun K hK => ?_⟩
          go_simp
          refine hK _ _ ⟨d1, true, a1, true, s1, true, v1, .agg #[.int .i64 blo, .int .i64 bhi], p1, .pointer (some ⟨g, 0, none⟩), (by clear hK K h hB ht t1 hc1 hc2 he; revert d1 a1 s1 s2; decide +kernel), by simp, put_far _ _ _ _ _ (by omega) h, (hB.setCell (p := ⟨g, 0, none⟩) (by simp; omega) _).setCell (p := ⟨g, 1, none⟩) (by simp; omega) _, t1, hc1, fun _ => rfl⟩
      case hd =>
        rintro b a W ⟨d1, d2, a1, a2, s1, s2, v1, v2, p1, p2, rfl, rfl, h, hB, ht, hc1, hc2⟩ hr
        have key : s1 = true ∧ s2 = true := by
          clear h hB ht hc1 hc2
          revert d1 d2 a1 a2 s1 s2
          decide +kernel
        obtain ⟨g7, cs7, rfl, hg7, hx7, _, e7⟩ := ht.l1 (hc1 key.1)
        obtain ⟨g8, cs8, rfl, hg8, hx8, _, e8⟩ := ht.l2 (hc2 key.2)
        obtain rfl := e7 key.1
        obtain rfl := e8 key.2
        clear hr key e7 e8
        simp
        go_wp2_with fail
        go_meet
        exact ⟨_, _, rfl, rfl, hg7, hg8, hx7, hx8, h, hB⟩
    case rest =>
      obtain ⟨g7, g8, rfl, rfl, hg7, hg8, X7, X8, B2, HB2⟩ := hcut
      clear D1 L1 B1 HB1 HS
      have HFA := Lib.hid (fun w => HFR.out (1 + pp) w)
      have HFB := Lib.hid (fun w => HFR.out (1 + pp + more) w)
      generalize free ⟨KK, PP⟩ (1 + pp) = fa at *
      generalize free ⟨KK, PP⟩ (1 + pp + more) = fb at *
      have y1 : decide (fa < fb) = false := decide_eq_false (by omega)
      have y2 : decide (alo < blo) = false := decide_eq_false (by omega)
      have y3 : decide (ahi < bhi) = false := decide_eq_false (by omega)
      have y4 : decide (1 < ahi - alo) = false := decide_eq_false (by omega)
      have y5 : decide (ahi < alo) = false := decide_eq_false (by omega)
      have y6 : decide (KK < fa) = false := decide_eq_false (by omega)
      have hws : IntKind.i64.wrap (ahi - alo) = ahi - alo := IntWalk.i64_in _ (by omega)
      have HS := Lib.hid (fun W (h0 : Box W w.heap.size 69 #[.int .i64 KK, .int .i64 PP]) (h7 : Box W g7 34 #[.int .i64 alo, .int .i64 ahi]) (h8 : Box W g8 34 #[.int .i64 blo, .int .i64 bhi]) => (⟨(gas_cells h0).1, (gas_cells h0).2, (rng_box2 h7).1, (rng_box2 h7).2, rng_box2 h8⟩ : W.cell? ⟨w.heap.size, 0, none⟩ = some (.int .i64 KK) ∧ W.cell? ⟨w.heap.size, 1, none⟩ = some (.int .i64 PP) ∧ W.cell? ⟨g7, 0, none⟩ = some (.int .i64 alo) ∧ W.cell? ⟨g7, 1, none⟩ = some (.int .i64 ahi) ∧ W.cell? ⟨g8, 0, none⟩ = some (.int .i64 blo) ∧ W.cell? ⟨g8, 1, none⟩ = some (.int .i64 bhi)))
      have G0 := Lib.hid B2.out.drew
      have E7 := Lib.hid X7.out.drew
      have E8 := Lib.hid X8.out.drew
      have L0 := Lib.hid HB2.out.drew
      clear l1 l2 l3 l4 l5 l6 sb1 sb2 sb3 sb4 sc1 sc2 sc3 sc4 B2 X7 X8 HB2
      go_upto_region 5 with fail
      go_region_held3 (fun w' => w'.cell? ⟨w.heap.size, 0, none⟩ = some (.int .i64 KK) ∧ w'.cell? ⟨w.heap.size, 1, none⟩ = some (.int .i64 PP) ∧ w'.cell? ⟨g7, 0, none⟩ = some (.int .i64 alo) ∧ w'.cell? ⟨g7, 1, none⟩ = some (.int .i64 ahi) ∧ w'.cell? ⟨g8, 0, none⟩ = some (.int .i64 blo) ∧ w'.cell? ⟨g8, 1, none⟩ = some (.int .i64 bhi))
        (first | exact HS.out _ G0.out E7.out E8.out | exact HS.out _ G1.out F7.out F8.out | exact HS.out _ G2.out I7.out I8.out | exact HS.out _ G3.out J7.out J8.out)
        (first
          | (go_at_call 43; (with_reducible refine (HFB.out _).mono ?_); rintro e w4 ⟨rfl, hb4⟩; have G1 := Lib.hid (G0.out.under hb4); have F7 := Lib.hid (E7.out.under hb4); have F8 := Lib.hid (E8.out.under hb4); have L1 := Lib.hid (L0.out.trans (hb4.mono L0.out.size)); clear hb4)
          | (go_at_call 43; (with_reducible refine (HFA.out _).mono ?_); rintro e w5 ⟨rfl, hb5⟩; have G2 := Lib.hid (G1.out.under hb5); have I7 := Lib.hid (F7.out.under hb5); have I8 := Lib.hid (F8.out.under hb5); have L2 := Lib.hid (L1.out.trans (hb5.mono L1.out.size)); clear hb5 G1 F7 F8 L1)
          | (go_at_call 43; (with_reducible refine (HFA.out _).mono ?_); rintro e w6 ⟨rfl, hb6⟩; have G3 := Lib.hid (G2.out.under hb6); have J7 := Lib.hid (I7.out.under hb6); have J8 := Lib.hid (I8.out.under hb6); have L3 := Lib.hid (L2.out.trans (hb6.mono L2.out.size)); clear hb6 G2 I7 I8 L2)
          | fail)
      obtain ⟨c0, c1⟩ := gas_cells G3.out
      obtain ⟨bl1, bl2⟩ := BL.out
      have HFM := Lib.hid (fun w => HFR.out 68719476736 w)
      clear y1 y2 y3 y4 y5 y6 hws HS
      go_wp2_with fail
      refine (HBU.out _).mono ?_
      rintro e w7 ⟨rfl, hb7⟩
      have G4 := Lib.hid (G3.out.under hb7)
      have L4 := Lib.hid (L3.out.trans (hb7.mono L3.out.size))
      clear hb7 c0 c1
      obtain ⟨c0, c1⟩ := gas_cells G4.out
      generalize (bubble ⟨KK, PP⟩).1 = xb at *
      cases hb : (bubble ⟨KK, PP⟩).2
      · have h9 := bl1 hb
        generalize free ⟨KK, PP⟩ 68719476736 = fm at *
        have y9 : decide (0 < fm) = true := decide_eq_true h9
        clear bl1 bl2 h9
        go_wp2_with fail
        refine (HFM.out _).mono ?_
        rintro e w8 ⟨rfl, hb8⟩
        have L5 := Lib.hid (L4.out.trans (hb8.mono L4.out.size))
        go_wp2_with fail
        refine (law03_awake _).mono ?_
        rintro e w9 ⟨rfl, hb9⟩
        go_wp2_with fail
        go_ret
        exact ⟨rfl, L5.out.trans (hb9.mono L5.out.size)⟩
      · obtain ⟨x1, x2, x3, x4⟩ := bl2 hb
        have z0 := x3 xb (by omega) x2
        have HF0 := Lib.hid (fun w => HFR.out xb w)
        rw [z0] at HF0
        have hwx : IntKind.i64.wrap (xb + more) = xb + more := IntWalk.i64_in _ (by omega)
        have HQ := Lib.hid (fun q (h1 : xb ≤ q) (h2 : q ≤ 68719476736) w => (by have := HFR.out q w; rw [x3 q h1 h2] at this; exact this : Calls Try.prog 43 #[.agg #[.int .i64 KK, .int .i64 PP], .int .i64 q] w fun e w' => e = .returned (.int .i64 0) ∧ Below w.heap.size w w'))
        have HX4 := Lib.hid x4
        clear bl1 bl2 x3 x4 z0
        go_wp2_with fail
        refine (HF0.out _).mono ?_
        rintro e w8 ⟨rfl, hb8⟩
        have G5 := Lib.hid (G4.out.under hb8)
        have L5 := Lib.hid (L4.out.trans (hb8.mono L4.out.size))
        clear hb8 c0 c1
        obtain ⟨c0, c1⟩ := gas_cells G5.out
        obtain ⟨q, hq⟩ : ∃ q, (if xb + more < 68719476736 then xb + more else (68719476736 : Int)) = q := ⟨_, rfl⟩
        have hq1 : xb ≤ q := by rw [← hq]; split <;> omega
        have hq2 : q ≤ 68719476736 := by rw [← hq]; split <;> omega
        have HF1 := Lib.hid (fun w => HQ.out q hq1 hq2 w)
        clear HQ hq1 hq2
        go_wp2_with fail
        refine (HF1.out _).mono ?_
        rintro e w9 ⟨rfl, hb9⟩
        have G6 := Lib.hid (G5.out.under hb9)
        have L6 := Lib.hid (L5.out.trans (hb9.mono L5.out.size))
        clear hb9 c0 c1 hq hwx
        obtain ⟨c0, c1⟩ := gas_cells G6.out
        rcases HX4.out with hx | ⟨hx1, hx2⟩
        · have hx0 : (xb == 1) = true := beq_iff_eq.2 hx
          clear hx HX4
          go_wp2_with fail
          refine (law03_awake _).mono ?_
          rintro e w10 ⟨rfl, hb10⟩
          go_wp2_with fail
          go_ret
          exact ⟨rfl, L6.out.trans (hb10.mono L6.out.size)⟩
        · have hx0 : (xb == 1) = false := beq_eq_false_iff_ne.2 (by omega)
          have HF2 := Lib.hid (fun w => HFR.out (xb - 1) w)
          have hwx : IntKind.i64.wrap (xb - 1) = xb - 1 := IntWalk.i64_in _ (by omega)
          generalize free ⟨KK, PP⟩ (xb - 1) = ff at *
          have y9 : decide (0 < ff) = true := decide_eq_true hx2
          clear hx1 hx2 HX4
          go_wp2_with fail
          refine (HF2.out _).mono ?_
          rintro e w10 ⟨rfl, hb10⟩
          have L7 := Lib.hid (L6.out.trans (hb10.mono L6.out.size))
          clear hb10
          go_wp2_with fail
          refine (law03_awake _).mono ?_
          rintro e w11 ⟨rfl, hb11⟩
          go_wp2_with fail
          go_ret
          exact ⟨rfl, L7.out.trans (hb11.mono L7.out.size)⟩

end Go.Proofs.Ytkommjjpaklenaa
