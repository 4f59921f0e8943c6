/- Walks of the package fluid: the pressure in a column, second part. -/
import Derived.Test.YtnhnheigdlnokaaFPress
import Derived.Test.YtnhnheigdlnokaaHeld
import Derived.Deep.RegionHeld3
import Derived.Deep.DeepCutAuto
namespace Go.Proofs.Ytnhnheigdlnokaa
open Go.RowKit Go.Shelf Go.Deep Mpl

theorem hole_load' {w : World} {g t : Nat} {v : Value} (h : Box w g t #[v]) : w.cell? ⟨g, 0, none⟩ = some v := h.cell 0
theorem rng_box {w : World} {g : Nat} {a b : Value} (h : Box w g 30 #[a, b]) : w.cell? ⟨g, 0, none⟩ = some a ∧ w.cell? ⟨g, 1, none⟩ = some b := ⟨h.cell 0, h.cell 1⟩
theorem rng_free {w : World} {g : Nat} {a b : Value} (h : Box w g 30 #[a, b]) : w.frozen? ⟨g, 0, none⟩ = false ∧ w.frozen? ⟨g, 1, none⟩ = false := ⟨h.frozen 0, h.frozen 1⟩

/-- the blocks of the call -/
structure PrSt (w w3 : World) (LB : Nat) (hv lv : Value) (lo hi : Int) (W : World) : Prop where
  hole : Box W w.heap.size 27 #[hv]
  res : ∃ x y, Box W (w.heap.size + 1) 30 #[.int .i64 x, .int .i64 y]
  line : Box W LB 62 #[lv]
  p : Box W (LB + 1) 30 #[.int .i64 lo, .int .i64 hi]
  below : Below w.heap.size w W
  low : Below LB w3 W
theorem PrSt.under {w w3 : World} {LB : Nat} {hv lv : Value} {lo hi : Int} {W W' : World} (h : PrSt w w3 LB hv lv lo hi W) (hb : Below W.heap.size W W') : PrSt w w3 LB hv lv lo hi W' :=
  ⟨h.hole.under hb, h.res.imp fun _ ⟨y, h⟩ => ⟨y, h.under hb⟩, h.line.under hb, h.p.under hb, h.below.trans (hb.mono h.below.size), h.low.trans (hb.mono (by have := h.line.lt; omega))⟩
theorem PrSt.setP {w w3 : World} {LB : Nat} {hv lv : Value} {lo hi : Int} {W : World} (h : PrSt w w3 LB hv lv lo hi W) (hL : w.heap.size + 1 < LB) (a b : Int) : PrSt w w3 LB hv lv a b ((W.setCell ⟨LB + 1, 0, none⟩ (.int .i64 a)).setCell ⟨LB + 1, 1, none⟩ (.int .i64 b)) :=
  ⟨(h.hole.far (by simp; omega) _).far (by simp; omega) _, h.res.imp fun _ ⟨y, h⟩ => ⟨y, (h.far (by simp; omega) _).far (by simp; omega) _⟩, (h.line.far (by simp) _).far (by simp) _, by simpa using (h.p.set_ 0 (.int .i64 a)).set_ 1 (.int .i64 b), (h.below.setCell (p := ⟨LB + 1, 0, none⟩) (by simp; omega) _).setCell (p := ⟨LB + 1, 1, none⟩) (by simp; omega) _, (h.low.setCell (p := ⟨LB + 1, 0, none⟩) (by simp) _).setCell (p := ⟨LB + 1, 1, none⟩) (by simp) _⟩

set_option maxHeartbeats 8000000 in
set_option maxRecDepth 100000 in
theorem press_walk (h : List Seg) (l : List Slug) (AH : Option Addr) (nh ch b off c : Nat) (top u : Int) (w : World) (g : GoodCol h l) (ht0 : 0 ≤ top) (ht1 : top ≤ 68719476736) (hu0 : 0 ≤ u) (hu1 : u ≤ sizeUp h h.length)
    (hb : b < w.heap.size) (hc : ∀ i, i < l.length → w.cell? ⟨b, off + i * 2, none⟩ = some (.int .i64 (slg l i).Weight) ∧ w.cell? ⟨b, off + i * 2 + 1, none⟩ = some (.int .i64 (slg l i).Volume)) (hcc : l.length ≤ c)
    (hcol : ∀ W, Below w.heap.size w W → Calls Try.prog 11 #[.agg #[.slice AH nh ch], .slice (some ⟨b, off, none⟩) l.length c] W fun e W' => e = .returned (.int .i64 0) ∧ Below W.heap.size W W')
    (hvol : ∀ W, Below w.heap.size w W → Calls Try.prog 10 #[.agg #[.slice AH nh ch]] W fun e W' => e = .returned (.int .i64 (sizeUp h h.length)) ∧ Below W.heap.size W W')
    (hhei : ∀ W, Below w.heap.size w W → Calls Try.prog 13 #[.agg #[.slice AH nh ch]] W fun e W' => (∃ v, e = .returned v ∧ LineV W' W'.heap.size v (heightOf h)) ∧ Below W.heap.size W W')
    (hris : ∀ W, Below w.heap.size w W → Calls Try.prog 15 #[.agg #[.slice AH nh ch]] W fun e W' => e = .returned (.int .i64 (riseUp h h.length)) ∧ Below W.heap.size W W') :
    Calls Try.prog 6 #[.agg #[.slice AH nh ch], .slice (some ⟨b, off, none⟩) l.length c, .int .i64 top, .int .i64 u] w fun e w' => e = .returned (.tuple #[.agg #[.int .i64 (pressAt h l top u).Lo, .int .i64 (pressAt h l top u).Hi], .int .i64 0]) ∧ Below w.heap.size w w' := by
  have HC := Lib.hid hc
  have G := Lib.hid g
  have HCOL := Lib.hid hcol
  have HVOL := Lib.hid hvol
  have HHEI := Lib.hid hhei
  have HRIS := Lib.hid hris
  have hpos := g.pos
  have hfew := g.few
  have hsz := g.hole.ups h.length (Nat.le_refl _)
  have hri0 : 0 ≤ riseUp h h.length := hsz.2.2.1
  have hri1 : riseUp h h.length ≤ 1048576 := by omega
  have hwi := within
  have hw1 : within top 0 68719476736 = true := by simp [within]; omega
  have hw2 : within u 0 (sizeUp h h.length) = true := by simp [within]; omega
  clear hc g hcol hvol hhei hris hsz hwi
  generalize sizeUp h h.length = vol at *
  have hPU0 : Hid (pressUp h l top u 0 = (l.length - 1, addR ⟨top, top⟩ (slg l (l.length - 1)).Weight ⟨riseUp h h.length, riseUp h h.length⟩)) := rfl
  have hwl := slg_weight G.out (l.length - 1)
  obtain ⟨wl0, wl1⟩ := hwl
  obtain ⟨hcl0, _⟩ := HC.out (l.length - 1) (by omega)
  generalize riseUp h h.length = ris at *
  have HLEN : Hid (l.length = l.length) := rfl
  obtain ⟨m, hm⟩ : ∃ m, l.length = m + 1 := ⟨l.length - 1, by omega⟩
  rw [hm] at hcl0 hPU0 hcc HCOL wl0 wl1 hfew
  have HM := Lib.hid hm
  rw [hm]
  rw [show m + 1 - 1 = m by omega] at hcl0 hPU0 wl0 wl1
  clear hm HLEN hpos
  have b0 : Box ((w.alloc (.cells #[.slice AH nh ch] 27)).alloc (.cells #[.int .i64 0, .int .i64 0] 30)) w.heap.size 27 #[.slice AH nh ch] := (Box.new w _ _ rfl).alloc _
  have b1 : Box ((w.alloc (.cells #[.slice AH nh ch] 27)).alloc (.cells #[.int .i64 0, .int .i64 0] 30)) (w.heap.size + 1) 30 #[.int .i64 0, .int .i64 0] := Box.new _ _ _ (by simp)
  have hB0 : Below w.heap.size w ((w.alloc (.cells #[.slice AH nh ch] 27)).alloc (.cells #[.int .i64 0, .int .i64 0] 30)) := (by repeat (first | exact Below.refl _ _ | assumption | refine Below.setCell ?_ (by first | (simp; done) | (simp; omega)) _ | refine belowDrewN ?_ _ | refine Below.drew ?_ | refine Below.alloc ?_ (by first | (simp; done) | (simp; omega)) _))
  have B0 := Lib.hid b0
  have B1 := Lib.hid b1
  have HB0 := Lib.hid hB0
  clear b0 b1 hB0
  go_enter Try.func6, Try.ntmps6
  go_wp2_with fail
  refine (HCOL.out _ HB0.out).mono ?_
  rintro e w1 ⟨rfl, hb1⟩
  replace B0 := Lib.hid (B0.out.under hb1)
  replace B1 := Lib.hid (B1.out.under hb1)
  replace HB0 := Lib.hid (HB0.out.trans (hb1.mono HB0.out.size))
  have q0 := hole_load B0.out
  clear hb1
  go_wp2_with (go_at_call 12; refine (fluid_within _ _ _ _).mono ?_; rintro e w' ⟨rfl, rfl⟩)
  refine (HVOL.out _ HB0.out).mono ?_
  rintro e w2 ⟨rfl, hb1⟩
  replace B0 := Lib.hid (B0.out.under hb1)
  replace B1 := Lib.hid (B1.out.under hb1)
  replace HB0 := Lib.hid (HB0.out.trans (hb1.mono HB0.out.size))
  clear hb1 q0
  have q0 := hole_load B0.out
  go_wp2_with (go_at_call 12; refine (fluid_within _ _ _ _).mono ?_; rintro e w' ⟨rfl, rfl⟩)
  refine (HHEI.out _ HB0.out).mono ?_
  rintro e w3 ⟨⟨lv, rfl, hlv⟩, hb1⟩
  replace B0 := Lib.hid (B0.out.under hb1)
  replace B1 := Lib.hid (B1.out.under hb1)
  replace HB0 := Lib.hid (HB0.out.trans (hb1.mono HB0.out.size))
  obtain ⟨AK, cK, rfl, hkn⟩ := hlv
  have HKN := Lib.hid hkn
  clear hb1 q0 hkn
  obtain ⟨w4, hw4⟩ : ∃ w4, ((w3.alloc (.cells #[.slice AK (heightOf h).length cK] 62)).alloc (.cells #[.int .i64 top, .int .i64 top] 30)) = w4 := ⟨_, rfl⟩
  have hL1 := B1.out.lt
  have P4 : Hid (PrSt w w3 w3.heap.size (.slice AH nh ch) (.slice AK (heightOf h).length cK) top top w4) := by
    unfold Hid
    rw [← hw4]
    exact ⟨(B0.out.alloc _).alloc _, ⟨_, _, (B1.out.alloc _).alloc _⟩, (Box.new _ _ _ rfl).alloc _, Box.new _ _ _ (by simp), (HB0.out.alloc HB0.out.size _).alloc (by have := HB0.out.size; simp; omega) _, (by repeat (first | exact Below.refl _ _ | assumption | refine Below.setCell ?_ (by first | (simp; done) | (simp; omega)) _ | refine belowDrewN ?_ _ | refine Below.drew ?_ | refine Below.alloc ?_ (by first | (simp; done) | (simp; omega)) _))⟩
  have HW4 := Lib.hid hw4
  clear hw4 B0 B1 HB0
  go_upto_region 9 with fail
  rw [HW4.out]
  have HKP := Lib.hid (fun lo hi W (hP : PrSt w w3 w3.heap.size (.slice AH nh ch) (.slice AK (heightOf h).length cK) lo hi W) => (⟨hole_load hP.hole, oldCell hP.below hb hcl0⟩ : W.cell? ⟨w.heap.size, 0, none⟩ = some (.slice AH nh ch) ∧ W.cell? ⟨b, off + m * 2, none⟩ = some (.int .i64 (slg l m).Weight)))
  have HADD := Lib.hid (fun W => fluid_add top top (slg l m).Weight ris ris W (by omega) (by omega) hri0 hri1 hri0 hri1 (by omega) (by omega) (by omega) (by omega))
  have P4d := Lib.hid (P4.out.under (Below.refl _ w4).drew)
  obtain ⟨q0, q1⟩ := rng_box P4d.out.p
  generalize (slg l m).Weight = wl at *
  have z0 : (0 : Int) ≤ (m : Int) := by omega
  have z1 : (m : Int) < (m : Int) + 1 := by omega
  have z2 : ((m : Int)).toNat = m := by omega
  have z3 : (m : Int) < ((m + 1 : Nat) : Int) := by omega
  clear hw1 hw2
  go_cut [13] (fun s13 wx => s13 = .pointer (some ⟨w3.heap.size + 1, 0, none⟩) ∧ Hid (PrSt w w3 w3.heap.size (.slice AH nh ch) (.slice AK (heightOf h).length cK) (addR ⟨top, top⟩ wl ⟨ris, ris⟩).Lo (addR ⟨top, top⟩ wl ⟨ris, ris⟩).Hi wx)  )
  case first =>
    have HS := Lib.hid (fun W (hP : PrSt w w3 w3.heap.size (.slice AH nh ch) (.slice AK (heightOf h).length cK) top top W) => (⟨(rng_box hP.p).1, (rng_box hP.p).2, HKP.out _ _ _ hP⟩ : W.cell? ⟨w3.heap.size + 1, 0, none⟩ = some (.int .i64 top) ∧ W.cell? ⟨w3.heap.size + 1, 1, none⟩ = some (.int .i64 top) ∧ W.cell? ⟨w.heap.size, 0, none⟩ = some (.slice AH nh ch) ∧ W.cell? ⟨b, off + m * 2, none⟩ = some (.int .i64 wl)))
    refine AnyBut.begin (S := (fun w' : World => w'.cell? ⟨w3.heap.size + 1, 0, none⟩ = some (.int .i64 top) ∧ w'.cell? ⟨w3.heap.size + 1, 1, none⟩ = some (.int .i64 top) ∧ w'.cell? ⟨w.heap.size, 0, none⟩ = some (.slice AH nh ch) ∧ w'.cell? ⟨b, off + m * 2, none⟩ = some (.int .i64 wl))) (z := 12) mixed ?_
    refine AnyBut.take (i := 0) (v := .agg #[.int .i64 top, .int .i64 top]) rfl (by decide +kernel) (by decide +kernel) (by decide +kernel) (by decide +kernel) (fun _ _ _ h => h) (HS.out _ P4d.out) (Or.inl ⟨by simp [Region.wanted], fun w' hw' => by (obtain ⟨s0, s1, s2, s3⟩ := hw'; go_simp)⟩) ?_
    refine AnyBut.take (i := 1) (v := .slice (some ⟨b, off, none⟩) (m + 1) c) rfl (by decide +kernel) (by decide +kernel) (by decide +kernel) (by decide +kernel) (fun _ _ _ h => h) (HS.out _ P4d.out) (Or.inl ⟨by simp [Region.wanted], fun w' hw' => by (obtain ⟨s0, s1, s2, s3⟩ := hw'; go_simp)⟩) ?_
    refine AnyBut.take (i := 2) (v := .int .i64 m) rfl (by decide +kernel) (by decide +kernel) (by decide +kernel) (by decide +kernel) (fun _ _ _ h => h) (HS.out _ P4d.out) (Or.inl ⟨by simp [Region.wanted], fun w' hw' => by (obtain ⟨s0, s1, s2, s3⟩ := hw'; go_simp)⟩) ?_
    refine AnyBut.take (i := 3) (v := .pointer (some ⟨b, off + m * 2, none⟩)) rfl (by decide +kernel) (by decide +kernel) (by decide +kernel) (by decide +kernel) (fun _ _ _ h => h) (HS.out _ P4d.out) (Or.inl ⟨by simp [Region.wanted], fun w' hw' => by (obtain ⟨s0, s1, s2, s3⟩ := hw'; go_simp)⟩) ?_
    refine AnyBut.take (i := 4) (v := .pointer (some ⟨b, off + m * 2, none⟩)) rfl (by decide +kernel) (by decide +kernel) (by decide +kernel) (by decide +kernel) (fun _ _ _ h => h) (HS.out _ P4d.out) (Or.inl ⟨by simp [Region.wanted], fun w' hw' => by (obtain ⟨s0, s1, s2, s3⟩ := hw'; go_simp)⟩) ?_
    refine AnyBut.take (i := 5) (v := .int .i64 wl) rfl (by decide +kernel) (by decide +kernel) (by decide +kernel) (by decide +kernel) (fun _ _ _ h => h) (HS.out _ P4d.out) (Or.inl ⟨by simp [Region.wanted], fun w' hw' => by (obtain ⟨s0, s1, s2, s3⟩ := hw'; go_simp)⟩) ?_
    refine AnyBut.take (i := 6) (v := .agg #[.slice AH nh ch]) rfl (by decide +kernel) (by decide +kernel) (by decide +kernel) (by decide +kernel) (fun _ _ _ h => h) (HS.out _ P4d.out) (Or.inl ⟨by simp [Region.wanted], fun w' hw' => by (obtain ⟨s0, s1, s2, s3⟩ := hw'; go_simp)⟩) ?_
    refine AnyBut.take (i := 8) (v := .agg #[.slice AH nh ch]) rfl (by decide +kernel) (by decide +kernel) (by decide +kernel) (by decide +kernel) (fun _ _ _ h => h) (HS.out _ P4d.out) (Or.inl ⟨by simp [Region.wanted], fun w' hw' => by (obtain ⟨s0, s1, s2, s3⟩ := hw'; go_simp)⟩) ?_
    refine AnyBut.only (i := 7) (by decide +kernel) rfl rfl (fun K hK => ?_)
    go_wp2_with fail
    refine (HRIS.out _ P4d.out.below).mono ?_
    rintro e w5 ⟨rfl, hb5⟩
    have P5 := Lib.hid (P4d.out.under hb5)
    refine hK _ _ (fun _ => HS.out _ P5.out) ?_
    clear hK K
    refine AnyBut.only (i := 9) (by decide +kernel) rfl rfl (fun K hK => ?_)
    go_wp2_with fail
    refine (HRIS.out _ P5.out.below).mono ?_
    rintro e w6 ⟨rfl, hb6⟩
    have P6 := Lib.hid (P5.out.under hb6)
    refine hK _ _ (fun _ => HS.out _ P6.out) ?_
    clear hK K
    refine AnyBut.take (i := 10) (v := .agg #[.int .i64 ris, .int .i64 ris]) rfl (by decide +kernel) (by decide +kernel) (by decide +kernel) (by decide +kernel) (fun _ _ _ h => h) (HS.out _ P6.out) (Or.inl ⟨by simp [Region.wanted], fun w' hw' => by (obtain ⟨s0, s1, s2, s3⟩ := hw'; go_simp)⟩) ?_
    refine AnyBut.only (i := 11) (by decide +kernel) rfl rfl (fun K hK => ?_)
    go_wp2_with fail
    refine (HADD.out _).mono ?_
    rintro e w7 ⟨rfl, hb7⟩
    have P7 := Lib.hid (P6.out.under hb7)
    refine hK _ _ (fun _ => HS.out _ P7.out) ?_
    clear hK K
    obtain ⟨y0, y1⟩ := rng_box P7.out.p
    obtain ⟨g0, g1⟩ := rng_free P7.out.p
    refine AnyBut.only (i := 12) (by decide +kernel) rfl rfl (fun K hK => ?_)
    go_wp2_with fail
    refine hK _ _ (fun h => absurd rfl h) ?_
    clear hK K
    refine AnyBut.done (by decide +kernel) ?_
    go_wp2_with fail
    go_meet
    exact ⟨rfl, P7.out.setP hL1 _ _⟩
  case rest =>
    obtain ⟨rfl, P8⟩ := hcut
    clear q0 q1 z0 z1 z2 z3 HADD P4 P4d HRIS HVOL HHEI HCOL HW4 hcl0
    have HPU := Lib.hid (show pressUp h l top u 0 = (m, addR ⟨top, top⟩ wl ⟨ris, ris⟩) from hPU0.out)
    have hsl : (m : Int) ≤ (m : Int) + 1 := by omega
    go_wp2_with fail
    go_loopw [14, 15, 61] (fun s14 s15 s61 wr => ∃ k : Nat, k ≤ m ∧ s61 = .int .i64 k ∧ s14 = .int .i64 ((pressUp h l top u k).1 : Int) ∧ s15 = .int .i64 (heldUp l k) ∧ Hid (PrSt w w3 w3.heap.size (.slice AH nh ch) (.slice AK (heightOf h).length cK) (pressUp h l top u k).2.Lo (pressUp h l top u k).2.Hi wr)) (fun _ _ s61 _ => m - (intOf s61).toNat)
    case atStart => exact ⟨0, Nat.zero_le _, rfl, by rw [HPU.out], rfl, by unfold Hid; rw [HPU.out]; exact P8.out⟩
    case round =>
      obtain ⟨k, hk, rfl, rfl, rfl, PR⟩ := hrel
      have hpb := pressUp_bound G.out top u ht0 ht1 k
      have hheld := G.out.held k l.length (by rw [HM.out]; omega) (Nat.le_refl _)
      rw [G.out.full] at hheld
      have hvolb := G.out.hole.ups h.length (Nat.le_refl _)
      by_cases hlt : k < m
      · obtain ⟨c0, c1⟩ := HC.out k (by rw [HM.out]; omega)
        obtain ⟨c2, _⟩ := HC.out (k + 1) (by rw [HM.out]; omega)
        have d0 := oldCell PR.out.below hb c0
        have d1 := oldCell PR.out.below hb c1
        have C2 := Lib.hid c2
        have hheld1 := G.out.held (k + 1) l.length (by rw [HM.out]; omega) (Nat.le_refl _)
        rw [G.out.full] at hheld1
        have hst := Lib.hid (heldUp_step l k)
        have hv1 := G.out.v1 k (by rw [HM.out]; omega)
        have hw1 := slg_weight G.out k
        have hw2 := slg_weight G.out (k + 1)
        have hps : Hid (pressUp h l top u (k + 1) = if u < heldUp l (k + 1) then (min (pressUp h l top u k).1 k, addR (pressUp h l top u k).2 ((slg l k).Weight - (slg l (k + 1)).Weight) (At (heightOf h) (heldUp l (k + 1)))) else pressUp h l top u k) := rfl
        have hhl0 : 0 ≤ heldUp l k := hheld.1
        have hhl1 : heldUp l k ≤ 5242880000 := by have := HM.out; omega
        have hhl2 : heldUp l k + (slg l k).Volume ≤ 5242880000 := by rw [← hst.out]; have := HM.out; omega
        have hat := height_at G.out.hole (heldUp l (k + 1))
        obtain ⟨a0, a1, a2⟩ := hat
        obtain ⟨hp1, hp2, hp3, hp4⟩ := hpb
        obtain ⟨w10, w11⟩ := hw1
        obtain ⟨w20, w21⟩ := hw2
        have hHU := Lib.hid hst.out
        clear c0 c1 c2 hheld hheld1 hvolb
        by_cases hu : u < heldUp l (k + 1)
        · have hd : decide (u < heldUp l k + (slg l k).Volume) = true := decide_eq_true (by rw [← hst.out]; exact hu)
          rw [if_pos hu] at hps
          have hw4w : IntKind.i64.wrap ((slg l k).Weight - (slg l (k + 1)).Weight) = (slg l k).Weight - (slg l (k + 1)).Weight := IntWalk.i64_in _ (by omega)
          have HAT := Lib.hid (fun W (hW : Below w3.heap.size w3 W) => earth_At (heightOf h) (.agg #[.slice AK (heightOf h).length cK]) (heldUp l (k + 1)) W ⟨AK, cK, rfl, HKN.out.up hW hW.size⟩)
          have HADD := Lib.hid (fun W => fluid_add (pressUp h l top u k).2.Lo (pressUp h l top u k).2.Hi ((slg l k).Weight - (slg l (k + 1)).Weight) (At (heightOf h) (heldUp l (k + 1))).Lo (At (heightOf h) (heldUp l (k + 1))).Hi W (by omega) (by omega) (by omega) (by omega) (by omega) (by omega) (by omega) (by omega) (by omega) (by omega))
          rw [hst.out] at HAT HADD hps
          have hPA := Lib.hid (PR.out.under ((Below.refl wr.heap.size wr).alloc (Nat.le_refl _) (.cells #[.int .i64 (slg l k).Weight, .int .i64 (slg l k).Volume] 35)))
          have hSB : Hid (Box (wr.alloc (.cells #[.int .i64 (slg l k).Weight, .int .i64 (slg l k).Volume] 35)) wr.heap.size 35 #[.int .i64 (slg l k).Weight, .int .i64 (slg l k).Volume]) := Box.new _ _ _ rfl
          have HX := Lib.hid (show ∀ a b : Nat, ((min a b : Nat) : Int) = if a ≤ b then (a : Int) else b from fun a b => by split <;> omega)
          have hlr := PR.out.line.lt
          have hlp := PR.out.p.lt
          clear a0 a1 a2 hp1 hp2 hp3 hHU
          generalize hA : addR (pressUp h l top u k).2 ((slg l k).Weight - (slg l (k + 1)).Weight) (At (heightOf h) (heldUp l k + (slg l k).Volume)) = AR at *
          have hAR : Hid (addR ⟨(pressUp h l top u k).2.Lo, (pressUp h l top u k).2.Hi⟩ ((slg l k).Weight - (slg l (k + 1)).Weight) ⟨(At (heightOf h) (heldUp l k + (slg l k).Volume)).Lo, (At (heightOf h) (heldUp l k + (slg l k).Volume)).Hi⟩ = AR) := hA
          clear hA
          try rw [hAR.out] at HADD
          clear hAR
          generalize (pressUp h l top u k).2.Lo = plo at *
          generalize (pressUp h l top u k).2.Hi = phi at *
          generalize (pressUp h l top u k).1 = here at *
          generalize (At (heightOf h) (heldUp l k + (slg l k).Volume)).Lo = alo at *
          generalize (At (heightOf h) (heldUp l k + (slg l k).Volume)).Hi = ahi at *
          generalize (slg l (k + 1)).Weight = W1 at *
          generalize slg l k = sk at *
          generalize heldUp l k = hk0 at *
          have z0 : (0 : Int) ≤ (k : Int) + 1 := by omega
          have z1 : (k : Int) + 1 < (m : Int) + 1 := by omega
          have z2 : ((k : Int) + 1).toNat = k + 1 := by omega
          have z3 : IntKind.i64.wrap ((k : Int) + 1) = (k : Int) + 1 := IntWalk.i64_in _ (by omega)
          have z4 : (k : Int) + 1 < ((m + 1 : Nat) : Int) := by omega
          by_cases hmin : here ≤ k
          · have hnlt : ¬ k < here := by omega
            go_upto_region 17 with fail
            obtain ⟨q0, q1⟩ := rng_box hPA.out.p
            have HPD := Lib.hid (hPA.out.under (Below.refl _ _).drew)
            have HSD := Lib.hid hSB.out.drew
            have HKP2 := Lib.hid (fun lo hi W (hP : PrSt w w3 w3.heap.size (.slice AH nh ch) (.slice AK (heightOf h).length cK) lo hi W) (hS : Box W wr.heap.size 35 #[.int .i64 sk.Weight, .int .i64 sk.Volume]) => (⟨hS.cell 0, oldCell hP.below hb C2.out, hole_load' hP.line⟩ : W.cell? ⟨wr.heap.size, 0, none⟩ = some (.int .i64 sk.Weight) ∧ W.cell? ⟨b, off + (k + 1) * 2, none⟩ = some (.int .i64 W1) ∧ W.cell? ⟨w3.heap.size, 0, none⟩ = some (.slice AK (heightOf h).length cK)))
            have HS := Lib.hid (fun W (hP : PrSt w w3 w3.heap.size (.slice AH nh ch) (.slice AK (heightOf h).length cK) plo phi W) hS => (⟨(rng_box hP.p).1, (rng_box hP.p).2, HKP2.out _ _ _ hP hS⟩ : W.cell? ⟨w3.heap.size + 1, 0, none⟩ = some (.int .i64 plo) ∧ W.cell? ⟨w3.heap.size + 1, 1, none⟩ = some (.int .i64 phi) ∧ W.cell? ⟨wr.heap.size, 0, none⟩ = some (.int .i64 sk.Weight) ∧ W.cell? ⟨b, off + (k + 1) * 2, none⟩ = some (.int .i64 W1) ∧ W.cell? ⟨w3.heap.size, 0, none⟩ = some (.slice AK (heightOf h).length cK)))
            refine AnyBut.begin (S := (fun w' : World => w'.cell? ⟨w3.heap.size + 1, 0, none⟩ = some (.int .i64 plo) ∧ w'.cell? ⟨w3.heap.size + 1, 1, none⟩ = some (.int .i64 phi) ∧ w'.cell? ⟨wr.heap.size, 0, none⟩ = some (.int .i64 sk.Weight) ∧ w'.cell? ⟨b, off + (k + 1) * 2, none⟩ = some (.int .i64 W1) ∧ w'.cell? ⟨w3.heap.size, 0, none⟩ = some (.slice AK (heightOf h).length cK))) (z := 14) mixed ?_
            refine AnyBut.take (i := 0) (v := .agg #[.int .i64 plo, .int .i64 phi]) rfl (by decide +kernel) (by decide +kernel) (by decide +kernel) (by decide +kernel) (fun _ _ _ h => h) (HS.out _ HPD.out HSD.out) (Or.inl ⟨by simp [Region.wanted], fun w' hw' => by (obtain ⟨s0, s1, s2, s3, s4⟩ := hw'; go_simp)⟩) ?_
            refine AnyBut.take (i := 1) (v := .pointer (some ⟨wr.heap.size, 0, none⟩)) rfl (by decide +kernel) (by decide +kernel) (by decide +kernel) (by decide +kernel) (fun _ _ _ h => h) (HS.out _ HPD.out HSD.out) (Or.inl ⟨by simp [Region.wanted], fun w' hw' => by (obtain ⟨s0, s1, s2, s3, s4⟩ := hw'; go_simp)⟩) ?_
            refine AnyBut.take (i := 2) (v := .int .i64 sk.Weight) rfl (by decide +kernel) (by decide +kernel) (by decide +kernel) (by decide +kernel) (fun _ _ _ h => h) (HS.out _ HPD.out HSD.out) (Or.inl ⟨by simp [Region.wanted], fun w' hw' => by (obtain ⟨s0, s1, s2, s3, s4⟩ := hw'; go_simp)⟩) ?_
            refine AnyBut.take (i := 3) (v := .slice (some ⟨b, off, none⟩) (m + 1) c) rfl (by decide +kernel) (by decide +kernel) (by decide +kernel) (by decide +kernel) (fun _ _ _ h => h) (HS.out _ HPD.out HSD.out) (Or.inl ⟨by simp [Region.wanted], fun w' hw' => by (obtain ⟨s0, s1, s2, s3, s4⟩ := hw'; go_simp)⟩) ?_
            refine AnyBut.take (i := 4) (v := .int .i64 k) rfl (by decide +kernel) (by decide +kernel) (by decide +kernel) (by decide +kernel) (fun _ _ _ h => h) (HS.out _ HPD.out HSD.out) (Or.inl ⟨by simp [Region.wanted], fun w' hw' => by (obtain ⟨s0, s1, s2, s3, s4⟩ := hw'; go_simp)⟩) ?_
            refine AnyBut.take (i := 5) (v := .int .i64 ((k : Int) + 1)) rfl (by decide +kernel) (by decide +kernel) (by decide +kernel) (by decide +kernel) (fun _ _ _ h => h) (HS.out _ HPD.out HSD.out) (Or.inl ⟨by simp [Region.wanted], fun w' hw' => by (obtain ⟨s0, s1, s2, s3, s4⟩ := hw'; go_simp)⟩) ?_
            refine AnyBut.take (i := 6) (v := .pointer (some ⟨b, off + (k + 1) * 2, none⟩)) rfl (by decide +kernel) (by decide +kernel) (by decide +kernel) (by decide +kernel) (fun _ _ _ h => h) (HS.out _ HPD.out HSD.out) (Or.inl ⟨by simp [Region.wanted], fun w' hw' => by (obtain ⟨s0, s1, s2, s3, s4⟩ := hw'; go_simp)⟩) ?_
            refine AnyBut.take (i := 7) (v := .pointer (some ⟨b, off + (k + 1) * 2, none⟩)) rfl (by decide +kernel) (by decide +kernel) (by decide +kernel) (by decide +kernel) (fun _ _ _ h => h) (HS.out _ HPD.out HSD.out) (Or.inl ⟨by simp [Region.wanted], fun w' hw' => by (obtain ⟨s0, s1, s2, s3, s4⟩ := hw'; go_simp)⟩) ?_
            refine AnyBut.take (i := 8) (v := .int .i64 W1) rfl (by decide +kernel) (by decide +kernel) (by decide +kernel) (by decide +kernel) (fun _ _ _ h => h) (HS.out _ HPD.out HSD.out) (Or.inl ⟨by simp [Region.wanted], fun w' hw' => by (obtain ⟨s0, s1, s2, s3, s4⟩ := hw'; go_simp)⟩) ?_
            refine AnyBut.take (i := 9) (v := .int .i64 (sk.Weight - W1)) rfl (by decide +kernel) (by decide +kernel) (by decide +kernel) (by decide +kernel) (fun _ _ _ h => h) (HS.out _ HPD.out HSD.out) (Or.inl ⟨by simp [Region.wanted], fun w' hw' => by (obtain ⟨s0, s1, s2, s3, s4⟩ := hw'; go_simp)⟩) ?_
            refine AnyBut.take (i := 10) (v := .agg #[.slice AK (heightOf h).length cK]) rfl (by decide +kernel) (by decide +kernel) (by decide +kernel) (by decide +kernel) (fun _ _ _ h => h) (HS.out _ HPD.out HSD.out) (Or.inl ⟨by simp [Region.wanted], fun w' hw' => by (obtain ⟨s0, s1, s2, s3, s4⟩ := hw'; go_simp)⟩) ?_
            refine AnyBut.take (i := 11) (v := .int .i64 (hk0 + sk.Volume)) rfl (by decide +kernel) (by decide +kernel) (by decide +kernel) (by decide +kernel) (fun _ _ _ h => h) (HS.out _ HPD.out HSD.out) (Or.inl ⟨by simp [Region.wanted], fun w' hw' => by (obtain ⟨s0, s1, s2, s3, s4⟩ := hw'; go_simp)⟩) ?_
            refine AnyBut.only (i := 12) (by decide +kernel) rfl rfl (fun K hK => ?_)
            go_wp2_with fail
            refine (HAT.out _ HPD.out.low).mono ?_
            rintro e w5 ⟨rfl, hb5⟩
            have P5 := Lib.hid (HPD.out.under hb5)
            have S5 := Lib.hid (HSD.out.under hb5)
            refine hK _ _ (fun _ => HS.out _ P5.out S5.out) ?_
            clear hK K
            refine AnyBut.only (i := 13) (by decide +kernel) rfl rfl (fun K hK => ?_)
            go_wp2_with fail
            refine (HADD.out _).mono ?_
            rintro e w7 ⟨rfl, hb7⟩
            have P7 := Lib.hid (P5.out.under hb7)
            have S7 := Lib.hid (S5.out.under hb7)
            refine hK _ _ (fun _ => HS.out _ P7.out S7.out) ?_
            clear hK K
            obtain ⟨y0, y1⟩ := rng_box P7.out.p
            obtain ⟨g0, g1⟩ := rng_free P7.out.p
            refine AnyBut.only (i := 14) (by decide +kernel) rfl rfl (fun K hK => ?_)
            go_wp2_with fail
            refine hK _ _ (fun h => absurd rfl h) ?_
            clear hK K
            refine AnyBut.done (by decide +kernel) ?_
            all_goals
              clear z3 hw4w
              go_wp2_with fail
              go_roundw
              case rel => exact ⟨k + 1, hlt, by go_num, by rw [hps.out]; exact congrArg (fun x => Value.int .i64 x) (by simp; omega), by rw [hst.out], by unfold Hid; rw [hps.out]; exact P7.out.setP hL1 _ _⟩
              case measure => simp [intOf]; omega
          · have hnlt : k < here := by omega
            go_upto_region 17 with fail
            obtain ⟨q0, q1⟩ := rng_box hPA.out.p
            have HPD := Lib.hid (hPA.out.under (Below.refl _ _).drew)
            have HSD := Lib.hid hSB.out.drew
            have HKP2 := Lib.hid (fun lo hi W (hP : PrSt w w3 w3.heap.size (.slice AH nh ch) (.slice AK (heightOf h).length cK) lo hi W) (hS : Box W wr.heap.size 35 #[.int .i64 sk.Weight, .int .i64 sk.Volume]) => (⟨hS.cell 0, oldCell hP.below hb C2.out, hole_load' hP.line⟩ : W.cell? ⟨wr.heap.size, 0, none⟩ = some (.int .i64 sk.Weight) ∧ W.cell? ⟨b, off + (k + 1) * 2, none⟩ = some (.int .i64 W1) ∧ W.cell? ⟨w3.heap.size, 0, none⟩ = some (.slice AK (heightOf h).length cK)))
            have HS := Lib.hid (fun W (hP : PrSt w w3 w3.heap.size (.slice AH nh ch) (.slice AK (heightOf h).length cK) plo phi W) hS => (⟨(rng_box hP.p).1, (rng_box hP.p).2, HKP2.out _ _ _ hP hS⟩ : W.cell? ⟨w3.heap.size + 1, 0, none⟩ = some (.int .i64 plo) ∧ W.cell? ⟨w3.heap.size + 1, 1, none⟩ = some (.int .i64 phi) ∧ W.cell? ⟨wr.heap.size, 0, none⟩ = some (.int .i64 sk.Weight) ∧ W.cell? ⟨b, off + (k + 1) * 2, none⟩ = some (.int .i64 W1) ∧ W.cell? ⟨w3.heap.size, 0, none⟩ = some (.slice AK (heightOf h).length cK)))
            refine AnyBut.begin (S := (fun w' : World => w'.cell? ⟨w3.heap.size + 1, 0, none⟩ = some (.int .i64 plo) ∧ w'.cell? ⟨w3.heap.size + 1, 1, none⟩ = some (.int .i64 phi) ∧ w'.cell? ⟨wr.heap.size, 0, none⟩ = some (.int .i64 sk.Weight) ∧ w'.cell? ⟨b, off + (k + 1) * 2, none⟩ = some (.int .i64 W1) ∧ w'.cell? ⟨w3.heap.size, 0, none⟩ = some (.slice AK (heightOf h).length cK))) (z := 14) mixed ?_
            refine AnyBut.take (i := 0) (v := .agg #[.int .i64 plo, .int .i64 phi]) rfl (by decide +kernel) (by decide +kernel) (by decide +kernel) (by decide +kernel) (fun _ _ _ h => h) (HS.out _ HPD.out HSD.out) (Or.inl ⟨by simp [Region.wanted], fun w' hw' => by (obtain ⟨s0, s1, s2, s3, s4⟩ := hw'; go_simp)⟩) ?_
            refine AnyBut.take (i := 1) (v := .pointer (some ⟨wr.heap.size, 0, none⟩)) rfl (by decide +kernel) (by decide +kernel) (by decide +kernel) (by decide +kernel) (fun _ _ _ h => h) (HS.out _ HPD.out HSD.out) (Or.inl ⟨by simp [Region.wanted], fun w' hw' => by (obtain ⟨s0, s1, s2, s3, s4⟩ := hw'; go_simp)⟩) ?_
            refine AnyBut.take (i := 2) (v := .int .i64 sk.Weight) rfl (by decide +kernel) (by decide +kernel) (by decide +kernel) (by decide +kernel) (fun _ _ _ h => h) (HS.out _ HPD.out HSD.out) (Or.inl ⟨by simp [Region.wanted], fun w' hw' => by (obtain ⟨s0, s1, s2, s3, s4⟩ := hw'; go_simp)⟩) ?_
            refine AnyBut.take (i := 3) (v := .slice (some ⟨b, off, none⟩) (m + 1) c) rfl (by decide +kernel) (by decide +kernel) (by decide +kernel) (by decide +kernel) (fun _ _ _ h => h) (HS.out _ HPD.out HSD.out) (Or.inl ⟨by simp [Region.wanted], fun w' hw' => by (obtain ⟨s0, s1, s2, s3, s4⟩ := hw'; go_simp)⟩) ?_
            refine AnyBut.take (i := 4) (v := .int .i64 k) rfl (by decide +kernel) (by decide +kernel) (by decide +kernel) (by decide +kernel) (fun _ _ _ h => h) (HS.out _ HPD.out HSD.out) (Or.inl ⟨by simp [Region.wanted], fun w' hw' => by (obtain ⟨s0, s1, s2, s3, s4⟩ := hw'; go_simp)⟩) ?_
            refine AnyBut.take (i := 5) (v := .int .i64 ((k : Int) + 1)) rfl (by decide +kernel) (by decide +kernel) (by decide +kernel) (by decide +kernel) (fun _ _ _ h => h) (HS.out _ HPD.out HSD.out) (Or.inl ⟨by simp [Region.wanted], fun w' hw' => by (obtain ⟨s0, s1, s2, s3, s4⟩ := hw'; go_simp)⟩) ?_
            refine AnyBut.take (i := 6) (v := .pointer (some ⟨b, off + (k + 1) * 2, none⟩)) rfl (by decide +kernel) (by decide +kernel) (by decide +kernel) (by decide +kernel) (fun _ _ _ h => h) (HS.out _ HPD.out HSD.out) (Or.inl ⟨by simp [Region.wanted], fun w' hw' => by (obtain ⟨s0, s1, s2, s3, s4⟩ := hw'; go_simp)⟩) ?_
            refine AnyBut.take (i := 7) (v := .pointer (some ⟨b, off + (k + 1) * 2, none⟩)) rfl (by decide +kernel) (by decide +kernel) (by decide +kernel) (by decide +kernel) (fun _ _ _ h => h) (HS.out _ HPD.out HSD.out) (Or.inl ⟨by simp [Region.wanted], fun w' hw' => by (obtain ⟨s0, s1, s2, s3, s4⟩ := hw'; go_simp)⟩) ?_
            refine AnyBut.take (i := 8) (v := .int .i64 W1) rfl (by decide +kernel) (by decide +kernel) (by decide +kernel) (by decide +kernel) (fun _ _ _ h => h) (HS.out _ HPD.out HSD.out) (Or.inl ⟨by simp [Region.wanted], fun w' hw' => by (obtain ⟨s0, s1, s2, s3, s4⟩ := hw'; go_simp)⟩) ?_
            refine AnyBut.take (i := 9) (v := .int .i64 (sk.Weight - W1)) rfl (by decide +kernel) (by decide +kernel) (by decide +kernel) (by decide +kernel) (fun _ _ _ h => h) (HS.out _ HPD.out HSD.out) (Or.inl ⟨by simp [Region.wanted], fun w' hw' => by (obtain ⟨s0, s1, s2, s3, s4⟩ := hw'; go_simp)⟩) ?_
            refine AnyBut.take (i := 10) (v := .agg #[.slice AK (heightOf h).length cK]) rfl (by decide +kernel) (by decide +kernel) (by decide +kernel) (by decide +kernel) (fun _ _ _ h => h) (HS.out _ HPD.out HSD.out) (Or.inl ⟨by simp [Region.wanted], fun w' hw' => by (obtain ⟨s0, s1, s2, s3, s4⟩ := hw'; go_simp)⟩) ?_
            refine AnyBut.take (i := 11) (v := .int .i64 (hk0 + sk.Volume)) rfl (by decide +kernel) (by decide +kernel) (by decide +kernel) (by decide +kernel) (fun _ _ _ h => h) (HS.out _ HPD.out HSD.out) (Or.inl ⟨by simp [Region.wanted], fun w' hw' => by (obtain ⟨s0, s1, s2, s3, s4⟩ := hw'; go_simp)⟩) ?_
            refine AnyBut.only (i := 12) (by decide +kernel) rfl rfl (fun K hK => ?_)
            go_wp2_with fail
            refine (HAT.out _ HPD.out.low).mono ?_
            rintro e w5 ⟨rfl, hb5⟩
            have P5 := Lib.hid (HPD.out.under hb5)
            have S5 := Lib.hid (HSD.out.under hb5)
            refine hK _ _ (fun _ => HS.out _ P5.out S5.out) ?_
            clear hK K
            refine AnyBut.only (i := 13) (by decide +kernel) rfl rfl (fun K hK => ?_)
            go_wp2_with fail
            refine (HADD.out _).mono ?_
            rintro e w7 ⟨rfl, hb7⟩
            have P7 := Lib.hid (P5.out.under hb7)
            have S7 := Lib.hid (S5.out.under hb7)
            refine hK _ _ (fun _ => HS.out _ P7.out S7.out) ?_
            clear hK K
            obtain ⟨y0, y1⟩ := rng_box P7.out.p
            obtain ⟨g0, g1⟩ := rng_free P7.out.p
            refine AnyBut.only (i := 14) (by decide +kernel) rfl rfl (fun K hK => ?_)
            go_wp2_with fail
            refine hK _ _ (fun h => absurd rfl h) ?_
            clear hK K
            refine AnyBut.done (by decide +kernel) ?_
            all_goals
              clear z3 hw4w
              go_wp2_with fail
              go_roundw
              case rel => exact ⟨k + 1, hlt, by go_num, by rw [hps.out]; exact congrArg (fun x => Value.int .i64 x) (by simp; omega), by rw [hst.out], by unfold Hid; rw [hps.out]; exact P7.out.setP hL1 _ _⟩
              case measure => simp [intOf]; omega
        · have hd : decide (u < heldUp l k + (slg l k).Volume) = false := decide_eq_false (by rw [← hst.out]; exact hu)
          rw [if_neg hu] at hps
          clear hu
          have hPA := Lib.hid (PR.out.under ((Below.refl wr.heap.size wr).alloc (Nat.le_refl _) (.cells #[.int .i64 (slg l k).Weight, .int .i64 (slg l k).Volume] 35)))
          go_wp2_with fail
          go_roundw
          case rel => exact ⟨k + 1, hlt, by go_num, by rw [hps.out], by rw [hst.out], by unfold Hid; rw [hps.out]; exact hPA.out⟩
          case measure => simp [intOf]; omega
      · obtain rfl : k = m := by omega
        obtain ⟨hp1, hp2, hp3, hp4⟩ := hpb
        have hat := height_at G.out.hole u
        obtain ⟨a0, a1, a2⟩ := hat
        have hhl : (pressUp h l top u k).1 < k + 1 := by have := HM.out; omega
        obtain ⟨c0, _⟩ := HC.out (pressUp h l top u k).1 (by rw [HM.out]; omega)
        have hwh := slg_weight G.out (pressUp h l top u k).1
        obtain ⟨w10, w11⟩ := hwh
        have hng : IntKind.i64.wrap (-(slg l (pressUp h l top u k).1).Weight) = -(slg l (pressUp h l top u k).1).Weight := IntWalk.i64_in _ (by omega)
        have HAT := Lib.hid (fun W (hW : Below w3.heap.size w3 W) => earth_At (heightOf h) (.agg #[.slice AK (heightOf h).length cK]) u W ⟨AK, cK, rfl, HKN.out.up hW hW.size⟩)
        have HADD := Lib.hid (fun W => fluid_add (pressUp h l top u k).2.Lo (pressUp h l top u k).2.Hi (-(slg l (pressUp h l top u k).1).Weight) (At (heightOf h) u).Lo (At (heightOf h) u).Hi W (by omega) (by omega) (by omega) (by omega) (by omega) (by omega) (by omega) (by omega) (by omega) (by omega))
        have hres : pressAt h l top u = addR (pressUp h l top u k).2 (-(slg l (pressUp h l top u k).1).Weight) (At (heightOf h) u) := by
          unfold pressAt
          rw [HM.out, show k + 1 - 1 = k by omega]
        have HRES := Lib.hid hres
        clear a0 a1 a2 hp1 hp2 hp3 hheld hvolb hres HPU hPU0 P8 HKP
        obtain ⟨AR, hA⟩ : ∃ AR, addR (pressUp h l top u k).2 (-(slg l (pressUp h l top u k).1).Weight) (At (heightOf h) u) = AR := ⟨_, rfl⟩
        have hA2 : addR ⟨(pressUp h l top u k).2.Lo, (pressUp h l top u k).2.Hi⟩ (-(slg l (pressUp h l top u k).1).Weight) ⟨(At (heightOf h) u).Lo, (At (heightOf h) u).Hi⟩ = AR := hA
        rw [hA2] at HADD
        rw [hA] at HRES
        clear hA hA2
        generalize (slg l (pressUp h l top u k).1).Weight = wh at *
        generalize (pressUp h l top u k).2.Lo = plo at *
        generalize (pressUp h l top u k).2.Hi = phi at *
        generalize (pressUp h l top u k).1 = here at *
        generalize (At (heightOf h) u).Lo = alo at *
        generalize (At (heightOf h) u).Hi = ahi at *
        have hlr := PR.out.line.lt
        have hlp := PR.out.p.lt
        have z0 : (0 : Int) ≤ (here : Int) := by omega
        have z1 : (here : Int) < (k : Int) + 1 := by omega
        have z2 : ((here : Int)).toNat = here := by omega
        have z4 : (here : Int) < ((k + 1 : Nat) : Int) := by omega
        go_upto_region 19 with fail
        have HPD := Lib.hid (PR.out.under (Below.refl _ _).drew)
        have HKP2 := Lib.hid (fun W (hP : PrSt w w3 w3.heap.size (.slice AH nh ch) (.slice AK (heightOf h).length cK) plo phi W) => (⟨hole_load' hP.line, oldCell hP.below hb c0, (rng_box hP.p).1, (rng_box hP.p).2⟩ : W.cell? ⟨w3.heap.size, 0, none⟩ = some (.slice AK (heightOf h).length cK) ∧ W.cell? ⟨b, off + here * 2, none⟩ = some (.int .i64 wh) ∧ W.cell? ⟨w3.heap.size + 1, 0, none⟩ = some (.int .i64 plo) ∧ W.cell? ⟨w3.heap.size + 1, 1, none⟩ = some (.int .i64 phi)))
        have HKF := Lib.hid (fun W (hP : PrSt w w3 w3.heap.size (.slice AH nh ch) (.slice AK (heightOf h).length cK) plo phi W) (x y : Value) => (⟨hole_load' ((hP.line.far (p := ⟨w.heap.size + 1, 0, none⟩) (by simp; omega) x).far (p := ⟨w.heap.size + 1, 1, none⟩) (by simp; omega) y), oldCell ((hP.below.setCell (p := ⟨w.heap.size + 1, 0, none⟩) (by simp) x).setCell (p := ⟨w.heap.size + 1, 1, none⟩) (by simp) y) hb c0, (rng_box ((hP.p.far (p := ⟨w.heap.size + 1, 0, none⟩) (by simp; omega) x).far (p := ⟨w.heap.size + 1, 1, none⟩) (by simp; omega) y)).1, (rng_box ((hP.p.far (p := ⟨w.heap.size + 1, 0, none⟩) (by simp; omega) x).far (p := ⟨w.heap.size + 1, 1, none⟩) (by simp; omega) y)).2⟩ : ((W.setCell ⟨w.heap.size + 1, 0, none⟩ x).setCell ⟨w.heap.size + 1, 1, none⟩ y).cell? ⟨w3.heap.size, 0, none⟩ = some (.slice AK (heightOf h).length cK) ∧ ((W.setCell ⟨w.heap.size + 1, 0, none⟩ x).setCell ⟨w.heap.size + 1, 1, none⟩ y).cell? ⟨b, off + here * 2, none⟩ = some (.int .i64 wh) ∧ ((W.setCell ⟨w.heap.size + 1, 0, none⟩ x).setCell ⟨w.heap.size + 1, 1, none⟩ y).cell? ⟨w3.heap.size + 1, 0, none⟩ = some (.int .i64 plo) ∧ ((W.setCell ⟨w.heap.size + 1, 0, none⟩ x).setCell ⟨w.heap.size + 1, 1, none⟩ y).cell? ⟨w3.heap.size + 1, 1, none⟩ = some (.int .i64 phi)))
        go_region_held3 (fun w' => w'.cell? ⟨w3.heap.size, 0, none⟩ = some (.slice AK (heightOf h).length cK) ∧ w'.cell? ⟨b, off + here * 2, none⟩ = some (.int .i64 wh) ∧ w'.cell? ⟨w3.heap.size + 1, 0, none⟩ = some (.int .i64 plo) ∧ w'.cell? ⟨w3.heap.size + 1, 1, none⟩ = some (.int .i64 phi))
          (first | with_reducible exact HKP2.out _ HPD.out | with_reducible exact HKP2.out _ P5.out | with_reducible exact HKP2.out _ P7.out | with_reducible exact HKF.out _ P7.out _ _)
          (first
            | (go_at_call 14; (with_reducible refine (HADD.out _).mono ?_); rintro e w7 ⟨rfl, hb7⟩; have P7 := Lib.hid (P5.out.under hb7); obtain ⟨rx, ry, hres7⟩ := P7.out.res; obtain ⟨y0, y1⟩ := rng_box hres7; obtain ⟨g0, g1⟩ := rng_free hres7; have R7 := Lib.hid hres7; clear hres7)
            | (go_at_call 16; (with_reducible refine (HAT.out _ HPD.out.low).mono ?_); rintro e w5 ⟨rfl, hb5⟩; have P5 := Lib.hid (HPD.out.under hb5))
            | fail)
        all_goals
          clear hng
          go_wp2_with fail
          have e0 := (R7.out.set_ 0 (.int .i64 AR.Lo)).set_ 1 (.int .i64 AR.Hi)
          have e1 : Box ((w7.setCell ⟨w.heap.size + 1, 0, none⟩ (.int .i64 AR.Lo)).setCell ⟨w.heap.size + 1, 1, none⟩ (.int .i64 AR.Hi)) (w.heap.size + 1) 30 #[.int .i64 AR.Lo, .int .i64 AR.Hi] := by simpa using e0
          obtain ⟨v0, v1⟩ := rng_box e1
          have hbf := (P7.out.below.setCell (p := ⟨w.heap.size + 1, 0, none⟩) (by simp) (.int .i64 AR.Lo)).setCell (p := ⟨w.heap.size + 1, 1, none⟩) (by simp) (.int .i64 AR.Hi)
          clear y0 y1 g0 g1 e0 e1
          generalize (w7.setCell ⟨w.heap.size + 1, 0, none⟩ (.int .i64 AR.Lo)).setCell ⟨w.heap.size + 1, 1, none⟩ (.int .i64 AR.Hi) = wf at *
          refine bodyPost_ret (v := .tuple #[.agg #[.int .i64 AR.Lo, .int .i64 AR.Hi], .int .i64 0]) (by simp [results, Try.results6, go_sem, v0, v1]) rfl ⟨by rw [HRES.out], hbf⟩

end Go.Proofs.Ytnhnheigdlnokaa
