/- The law FluidBalance, walked. -/
import Derived.Test.YtkommjjpaklenaaFPump2
import Derived.Test.YtkommjjpaklenaaFHeld
import Derived.Test.YtkommjjpaklenaaFOpen
import Derived.Test.YtkommjjpaklenaaFAwake
import Derived.Test.YtkommjjpaklenaaFAnnulus
import Derived.Deep.RegionHeld3
namespace Mpl
theorem held_bounds {l : List Slug} (hn : NonNeg l) : ∀ k, k ≤ l.length → 0 ≤ heldUp l k ∧ heldUp l k ≤ total l := by
  have up : ∀ k, k < l.length → heldUp l k ≤ heldUp l (k + 1) := fun k hk => by
    rw [heldUp_step]
    have := hn _ (slg_mem hk)
    omega
  have lo : ∀ k, k ≤ l.length → 0 ≤ heldUp l k := fun k => by
    induction k with
    | zero => intro _; exact Int.le_refl _
    | succ k ih => intro hk; have := ih (by omega); have := up k (by omega); omega
  have hi : ∀ d k, k + d = l.length → heldUp l k ≤ heldUp l l.length := fun d => by
    induction d with
    | zero => intro k hk; rw [show k = l.length by omega]; exact Int.le_refl _
    | succ d ih => intro k hk; have := ih (k + 1) (by omega); have := up k (by omega); omega
  exact fun k hk => ⟨lo k hk, by rw [total_held]; exact hi (l.length - k) k (by omega)⟩
end Mpl
namespace Go.Proofs.Ytkommjjpaklenaa
open Go.RowKit Go.Shelf Mpl

theorem good_Pump {h : List Seg} {l : List Slug} (g : GoodCol h l) (hl : l.length ≤ 21) {s : Slug} (hs : Pumps h s) {v0 : Value} {A : Option Addr} {c : Nat} {W : World} (hv : HoleV W W.heap.size v0 h) (hsl : Slugs W W.heap.size A l) :
    Calls Try.prog 51 #[v0, .slice A l.length c, .agg #[.int .i64 s.Weight, .int .i64 s.Volume]] W fun e w' => ∃ A1 c1 A2 c2, e = .returned (.tuple #[.slice A1 (pump h l s).1.length c1, .slice A2 (pump h l s).2.1.length c2, .int .i64 0]) ∧ w'.ownsRow W.heap.size 39 2 (.slice A1 (pump h l s).1.length c1) (pump h l s).1.length ((pump h l s).1.flatMap slugC) ∧ w'.ownsRow W.heap.size 39 2 (.slice A2 (pump h l s).2.1.length c2) (pump h l s).2.1.length ((pump h l s).2.1.flatMap slugC) ∧ Below W.heap.size W w' := by
  have h0 := (pump_good g (by omega) hs).1
  have hm := g.hole.few
  refine (fluid_Pump v0 h l s A c W hv g.hole.in_ (by unfold maxLen; omega) hsl g.in_ (by unfold maxLen; omega)).mono ?_
  rintro e w' ⟨⟨A1, c1, A2, c2, rfl, o1, o2⟩, hb⟩
  refine ⟨A1, c1, A2, c2, ?_, o1, o2, hb⟩
  rw [h0]

def PumpR (W : World) (p o : List Slug) (e : Ending) (w' : World) : Prop :=
  ∃ A1 c1 A2 c2, e = .returned (.tuple #[.slice A1 p.length c1, .slice A2 o.length c2, .int .i64 0]) ∧ w'.ownsRow W.heap.size 39 2 (.slice A1 p.length c1) p.length (p.flatMap slugC) ∧ w'.ownsRow W.heap.size 39 2 (.slice A2 o.length c2) o.length (o.flatMap slugC) ∧ Below W.heap.size W w'

theorem slug_box {w : World} {g : Nat} {x y : Int} (h : Box w g 39 #[.int .i64 x, .int .i64 y]) : w.cell? ⟨g, 0, none⟩ = some (.int .i64 x) ∧ w.cell? ⟨g, 1, none⟩ = some (.int .i64 y) := ⟨h.cell 0, h.cell 1⟩

structure BalSt (gh gs gt : Nat) (hv : Value) (x y y' : Int) (w3 W : World) : Prop where
  h : Box W gh 25 #[hv]
  s : Box W gs 39 #[.int .i64 x, .int .i64 y]
  t : Box W gt 39 #[.int .i64 x, .int .i64 y']
  b : Below w3.heap.size w3 W
theorem BalSt.under {gh gs gt : Nat} {hv : Value} {x y y' : Int} {w3 W W' : World} (h : BalSt gh gs gt hv x y y' w3 W) (hb : Below W.heap.size W W') : BalSt gh gs gt hv x y y' w3 W' := ⟨h.h.under hb, h.s.under hb, h.t.under hb, h.b.trans (hb.mono h.b.size)⟩

set_option maxHeartbeats 8000000 in
set_option maxRecDepth 100000 in
theorem walk_FluidBalance (l : List Int) (A : Option Addr) (c : Nat) (l2 : List Int) (A2 : Option Addr) (c2 : Nat) (wt0 a0 b0 : Int) (w : World) (hl : Ints w w.heap.size A l) (hlin : IntsIn l) (hc : l.length ≤ c) (hm : c ≤ maxLen)
    (hl2 : Ints w w.heap.size A2 l2) (hlin2 : IntsIn l2) (hc2 : l2.length ≤ c2) (hm2 : c2 ≤ maxLen) (h1 : inI64 wt0) (h2 : inI64 a0) (h3 : inI64 b0) :
    Calls Try.prog 15 #[.slice A l.length c, .slice A2 l2.length c2, .int .i64 wt0, .int .i64 a0, .int .i64 b0] w fun e w' => e = .returned (.bool true) ∧ Below w.heap.size w w' := by
  have HAN := Lib.hid (kit_Annulus l A c w hl hlin (by omega))
  have HKC := Lib.hid (fun h v0 W (hW : Below w.heap.size w W) hv hg => kit_Column h v0 l2 A2 c2 W hv hg (hl2.up hW hW.size) hlin2 (by omega))
  have K1 := Lib.hid (fun w => kit_Mod64 wt0 10000 w h1 (by omega) (by omega))
  have K2 := Lib.hid (fun V w (hV : 0 < V) (hV2 : V ≤ 5242880000) => kit_Mod64 a0 V w h2 hV (by omega))
  have K3 := Lib.hid (fun V w (hV : 0 < V) (hV2 : V ≤ 5242880000) => kit_Mod64 b0 V w h3 hV (by omega))
  have r1 : 0 ≤ wt0 % 10000 ∧ wt0 % 10000 < 10000 := by omega
  clear hl hlin hl2 hlin2 h1 h2 h3
  generalize l.length = nl at *
  generalize l2.length = nl2 at *
  generalize wt0 % 10000 = wt at *
  obtain ⟨r10, r11⟩ := r1
  go_enter Try.func15, Try.ntmps15
  go_wp2_with fail
  refine HAN.out.mono ?_
  rintro e w1 ⟨⟨A', c', h, rfl, hown, hann⟩, hb1⟩
  have GH := Lib.hid hann.good
  have HV1 := Lib.hid ((own_hole hown).alloc (.cells #[.slice A' h.length c'] 25))
  have hbx : Box (w1.alloc (.cells #[.slice A' h.length c'] 25)) w1.heap.size 25 #[.slice A' h.length c'] := Box.new _ _ _ rfl
  have BX1 := Lib.hid hbx
  have W1 := Lib.hid (hb1.alloc hb1.size (.cells #[.slice A' h.length c'] 25))
  have hV := (hann.good.ups h.length (Nat.le_refl _)).2.2.2.2.2
  have hV1 := hann.one_le
  clear hown hann hb1 hbx
  have HK := Lib.hid (HKC.out h _ _ W1.out HV1.out GH.out)
  clear HKC HAN
  go_wp2_with fail
  refine HK.out.mono ?_
  rintro e w2 ⟨⟨A3, c3, ls, rfl, hown2, hcol⟩, hb2⟩
  have GC := Lib.hid (hcol.good GH.out)
  have HS2 := Lib.hid (own_slugs hown2)
  have HV2 := Lib.hid (HV1.out.below hb2)
  have X2 := Lib.hid (BX1.out.under hb2)
  have W2 := Lib.hid (W1.out.trans (hb2.mono W1.out.size))
  have hn6 := hcol.few
  have HH := Lib.hid (fun w (hw : Slugs w w.heap.size A3 ls) => kit_Held ls A3 c3 w hw (by omega) (fun k hk => by have := heldUp_mono GC.out hk; omega))
  have hfull : heldUp ls ls.length = sizeUp h h.length := GC.out.full
  rw [hfull] at HH
  have HF := Lib.hid (HH.out w2 HS2.out)
  have HA := Lib.hid (Int.emod_nonneg a0 (show sizeUp h h.length ≠ 0 by omega))
  have HA' := Lib.hid (Int.emod_lt_of_pos a0 (show 0 < sizeUp h h.length by omega))
  have HB := Lib.hid (Int.emod_nonneg b0 (show sizeUp h h.length ≠ 0 by omega))
  have HB' := Lib.hid (Int.emod_lt_of_pos b0 (show 0 < sizeUp h h.length by omega))
  have KA := Lib.hid (fun w => K2.out (sizeUp h h.length) w (by omega) (by omega))
  have KB := Lib.hid (fun w => K3.out (sizeUp h h.length) w (by omega) (by omega))
  obtain ⟨s, hs⟩ : ∃ s : Slug, s = ⟨9000 + wt, 1 + a0 % sizeUp h h.length⟩ := ⟨_, rfl⟩
  obtain ⟨t, ht⟩ : ∃ t : Slug, t = ⟨9000 + wt, 1 + b0 % sizeUp h h.length⟩ := ⟨_, rfl⟩
  have PS : Hid (Pumps h s) := by subst hs; have := HA.out; have := HA'.out; exact ⟨by show 0 ≤ 9000 + wt; omega, by show 9000 + wt ≤ 40000; omega, by show 1 ≤ 1 + _; omega, by show 1 + _ ≤ sizeUp h h.length; omega⟩
  have PT : Hid (Pumps h t) := by subst ht; have := HB.out; have := HB'.out; exact ⟨by show 0 ≤ 9000 + wt; omega, by show 9000 + wt ≤ 40000; omega, by show 1 ≤ 1 + _; omega, by show 1 + _ ≤ sizeUp h h.length; omega⟩
  have HS := Lib.hid hs
  have HT := Lib.hid ht
  have HN6 := Lib.hid hn6
  have EQW : Hid (s.Weight = t.Weight) := by unfold Hid; rw [hs, ht]
  have hA0 := HA.out
  have hA1 := HA'.out
  have hB0 := HB.out
  have hB1 := HB'.out
  clear hown2 hcol hb2 HK BX1 HV1 W1 hfull HH HA HA' HB HB' K2 K3 hs ht
  have q0 := hole_box X2.out
  generalize hV' : sizeUp h h.length = V at *
  clear hV'
  generalize a0 % V = a at *
  generalize b0 % V = b at *
  generalize hnh : h.length = nh at *
  have HNH := Lib.hid hnh
  clear hnh
  generalize hn : ls.length = n at *
  have HN := Lib.hid hn
  clear hn hn6
  go_upto_region 6 with (first | (go_at_call 23; (with_reducible refine HF.out.mono ?_); rintro e w' ⟨rfl, rfl⟩) | (go_at_call 20; (first | (with_reducible refine (K1.out _).mono ?_) | (with_reducible refine (KA.out _).mono ?_) | (with_reducible refine (KB.out _).mono ?_)); rintro e w' ⟨rfl, rfl⟩))
  obtain ⟨w3, hw3⟩ : ∃ w3, (w2.alloc (.cells #[.int .i64 (9000 + wt), .int .i64 (1 + a)] 39)).alloc (.cells #[.int .i64 (9000 + wt), .int .i64 (1 + b)] 39) = w3 := ⟨_, rfl⟩
  have hb3 : Below w2.heap.size w2 w3 := by rw [← hw3]; exact ((Below.refl _ _).alloc (Nat.le_refl _) _).alloc (by simp) _
  have Z3 : Hid (BalSt w1.heap.size w2.heap.size (w2.heap.size + 1) (.slice A' nh c') (9000 + wt) (1 + a) (1 + b) w3 w3) := ⟨X2.out.under hb3, by rw [← hw3]; exact (Box.new _ _ _ rfl).alloc _, by rw [← hw3]; exact Box.new _ _ _ (by simp), Below.refl _ _⟩
  have HV3 := Lib.hid (HV2.out.below hb3)
  have HS3 := Lib.hid (HS2.out.below hb3)
  have W3 := Lib.hid (W2.out.trans (hb3.mono W2.out.size))
  have HW3 := Lib.hid hw3
  clear hw3 hb3 q0
  have es1 : s.Weight = 9000 + wt := by rw [HS.out]
  have es2 : s.Volume = 1 + a := by rw [HS.out]
  have et1 : t.Weight = 9000 + wt := by rw [HT.out]
  have et2 : t.Volume = 1 + b := by rw [HT.out]
  have hn6 : ls.length ≤ 6 := by rw [HN.out]; exact HN6.out
  have PC1 := pump_column GC.out (by omega) PS.out
  have PC3 := pump_column GC.out (by omega) PT.out
  have PO := pump_order GC.out (by omega) PS.out PT.out EQW.out
  have PG1 := pump_good GC.out (by omega) PS.out
  have PG3 := pump_good GC.out (by omega) PT.out
  have lp := PG1.2.2.2.2.2
  have lr := PG3.2.2.2.2.2
  have PG2 := pump_good PC1.1 (by omega) PT.out
  have lq := PG2.2.2.2.2.2
  have lo : (pump h ls s).2.1.length ≤ ls.length + 1 := by
    rw [PG1.1]
    have := plainOf_length (goes (sizeUp h h.length) (s :: ls))
    rw [goes_length] at this
    simpa using this
  have no : NonNeg (pump h ls s).2.1 := PG1.2.2.1.nonneg
  have T1 := fun W (hW : Below w3.heap.size w3 W) => good_Pump GC.out (by omega) PS.out (HV3.out.below hW) (c := c3) (HS3.out.below hW)
  have T2 := fun W A c (hW : Below w3.heap.size w3 W) (hs : Slugs W W.heap.size A (pump h ls s).1) => good_Pump PC1.1 (by omega) PT.out (HV3.out.below hW) (c := c) hs
  have T3 := fun W (hW : Below w3.heap.size w3 W) => good_Pump GC.out (by omega) PT.out (HV3.out.below hW) (c := c3) (HS3.out.below hW)
  have T4 := fun W A c (hW : Below w3.heap.size w3 W) (hs : Slugs W W.heap.size A (pump h ls t).1) => good_Pump PC3.1 (by omega) PS.out (HV3.out.below hW) (c := c) hs
  rw [← PO.2.2.2.2] at T4
  rw [es1, es2] at T1 T4
  rw [et1, et2] at T2 T3
  rw [HN.out] at T1 T3
  have o1 := PC1.2.1
  have o2 := PC1.2.2.1
  have o3 := PC1.2.2.2.1
  have o4 := PC1.2.2.2.2.1
  have o5 := PC1.2.2.2.2.2
  rw [es2] at o1 o5
  rw [es1] at o4
  have GP := Lib.hid PC1.1
  have hin := GP.out.in_
  have TC := Lib.hid (fun W A c (hW : Below w3.heap.size w3 W) (hs : Slugs W W.heap.size A (pump h ls s).1) => (by have := fluid_CheckColumn _ h (pump h ls s).1 A c W (HV3.out.below hW) GC.out.hole.in_ (by have := GC.out.hole.few; unfold maxLen; omega) hs hin (by unfold maxLen; omega); rw [(checkColumn_iff h (pump h ls s).1).2 GP.out] at this; exact this : Calls Try.prog 54 #[.agg #[.slice A' nh c'], .slice A (pump h ls s).1.length c] W fun e w' => e = .returned (.int .i64 0) ∧ Below W.heap.size W w'))
  have TH := Lib.hid (fun W A c (hs : Slugs W W.heap.size A (pump h ls s).2.1) => (by have := kit_Held (pump h ls s).2.1 A c W hs (by omega) (fun k hk => by have := held_bounds no k hk; omega); rw [← total_held, o1] at this; exact this : Calls Try.prog 23 #[.slice A (pump h ls s).2.1.length c] W fun e w' => e = .returned (.int .i64 (1 + a)) ∧ W = w'))
  have TP1 := fun W A c (hs : Slugs W W.heap.size A (pump h ls s).1) => fluid_Plain (pump h ls s).1 A c W hs (by omega)
  have TP2 := fun W A c (hs : Slugs W W.heap.size A (pump h ls s).2.1) => fluid_Plain (pump h ls s).2.1 A c W hs (by omega)
  rw [o2] at TP1
  rw [o3] at TP2
  have hpos := GP.out.pos
  have LP : Hid ((pump h ls s).1.length ≤ 1000 ∧ (pump h ls s).2.1.length ≤ 1000 ∧ (pump h (pump h ls s).1 t).1.length ≤ 1000) := ⟨by omega, by omega, by omega⟩
  clear PC1 PC3 PO PG1 PG2 PG3 lp lr lq lo no o1 o2 o3 hin GP hn6 es1 es2 et1 et2
  generalize (pump h (pump h ls s).1 t).1 = qq at *
  generalize (pump h (pump h ls s).1 t).2.1 = oq at *
  generalize (pump h (pump h ls t).1 s).2.1 = ot at *
  generalize (pump h ls s).1 = pp at *
  generalize (pump h ls s).2.1 = oo at *
  generalize (pump h ls t).1 = rr at *
  generalize (pump h ls t).2.1 = orr at *
  have P1 := Lib.hid T1
  have P2 := Lib.hid T2
  have P3 := Lib.hid T3
  have P4 := Lib.hid T4
  have Q1 := Lib.hid TP1
  have Q2 := Lib.hid TP2
  have TS := Lib.hid (fun (x : List Slug) A B c d W (hm : x.length ≤ 1000) hx hy => (by have := kit_SameSlugs x x A B c d W hx hy hm hm; rw [decide_eq_true rfl] at this; exact this : Calls Try.prog 53 #[.slice A x.length c, .slice B x.length d] W fun e w' => e = .returned (.bool true) ∧ Below W.heap.size W w'))
  clear T1 T2 T3 T4 TP1 TP2
  have q0 := hole_box Z3.out.h
  obtain ⟨x0, x1⟩ := slug_box Z3.out.s
  obtain ⟨x2, x3⟩ := slug_box Z3.out.t
  rw [HW3.out]
  go_wp2_with fail
  refine (P1.out _ (Below.refl _ _)).mono ?_
  rintro e w4 ⟨A4, c4, A5, c5, rfl, po4, oo4, hb4⟩
  have Z4 := Lib.hid (Z3.out.under hb4)
  have HPO := Lib.hid po4
  have HOO := Lib.hid oo4
  obtain ⟨pb, off, rfl, hpb, hpc⟩ := own_slugs po4 hpos
  obtain ⟨y0, y1⟩ := hpc 0 hpos
  simp only [Nat.zero_mul, Nat.add_zero] at y0 y1
  rw [o4] at y0
  generalize (slg pp 0).Volume = vp at *
  have HSS := Lib.hid (fun W (hW : Below w4.heap.size w4 W) => (⟨hole_box (Z4.out.under hW).h, (slug_box (Z4.out.under hW).s).2, oldCell hW hpb y0, oldCell hW hpb y1⟩ : W.cell? ⟨w1.heap.size, 0, none⟩ = some (.slice A' nh c') ∧ W.cell? ⟨w2.heap.size, 1, none⟩ = some (.int .i64 (1 + a)) ∧ W.cell? ⟨pb, off, none⟩ = some (.int .i64 (9000 + wt)) ∧ W.cell? ⟨pb, off + 1, none⟩ = some (.int .i64 vp)))
  have hlb : w1.heap.size < w4.heap.size := Z4.out.h.lt
  have hls : w2.heap.size < w4.heap.size := Z4.out.s.lt
  clear po4 oo4 hb4 hpc y0 y1 q0 x0 x1 x2 x3 HW3 P1 o4
  have z1 : (pp.length == 0) = false := beq_eq_false_iff_ne.2 (by omega)
  have z2 : ((pp.length : Int) == 0) = false := beq_eq_false_iff_ne.2 (by omega)
  have z3 : decide (vp < 1 + a) = false := decide_eq_false (by omega)
  have z4 : (0 : Int) < (pp.length : Int) := by omega
  have z5 : ((9000 + wt) != (9000 + wt)) = false := bne_self_eq_false _
  have z6 : ((1 + a) != (1 + a)) = false := bne_self_eq_false _
  go_upto_region 7 with fail
  have E0 : Hid (Below w4.heap.size w4 w4.drew) := (Below.refl _ _).drew
  go_region_held3 (fun w' => w'.cell? ⟨w1.heap.size, 0, none⟩ = some (.slice A' nh c') ∧ w'.cell? ⟨w2.heap.size, 1, none⟩ = some (.int .i64 (1 + a)) ∧ w'.cell? ⟨pb, off, none⟩ = some (.int .i64 (9000 + wt)) ∧ w'.cell? ⟨pb, off + 1, none⟩ = some (.int .i64 vp))
    (first | exact HSS.out _ E0.out | exact HSS.out _ E1.out | exact HSS.out _ E2.out | exact HSS.out _ E3.out | exact HSS.out _ E4.out | exact HSS.out _ E5.out)
    (first
      | (go_at_call 23; (with_reducible refine (TH.out _ _ _ (own_slugs (own_under HOO.out E0.out))).mono ?_); rintro e w' ⟨rfl, rfl⟩)
      | (go_at_call 54; (with_reducible refine (TC.out _ _ _ (Z4.out.under E0.out).b (own_slugs (own_under HPO.out E0.out))).mono ?_); rintro e w5 ⟨rfl, hb5⟩; have E1 := Lib.hid (E0.out.trans (hb5.mono E0.out.size)); clear hb5)
      | (go_at_call 55; (with_reducible refine (Q1.out _ _ _ (own_slugs (own_under HPO.out E1.out))).mono ?_); rintro e w6 ⟨⟨A6, c6, rfl, o6⟩, hb6⟩; have E2 := Lib.hid (E1.out.trans (hb6.mono E1.out.size)); have L6 := Lib.hid (own_slugs o6); clear hb6 o6)
      | (go_at_call 53; (with_reducible refine (TS.out pp _ _ _ _ _ LP.out.1 L6.out (own_slugs (own_under HPO.out E2.out))).mono ?_); rintro e w7 ⟨rfl, hb7⟩; have E3 := Lib.hid (E2.out.trans (hb7.mono E2.out.size)); clear hb7)
      | (go_at_call 55; (with_reducible refine (Q2.out _ _ _ (own_slugs (own_under HOO.out E3.out))).mono ?_); rintro e w8 ⟨⟨A8, c8, rfl, o8⟩, hb8⟩; have E4 := Lib.hid (E3.out.trans (hb8.mono E3.out.size)); have L8 := Lib.hid (own_slugs o8); clear hb8 o8)
      | (go_at_call 53; (with_reducible refine (TS.out oo _ _ _ _ _ LP.out.2.1 L8.out (own_slugs (own_under HOO.out E4.out))).mono ?_); rintro e w9 ⟨rfl, hb9⟩; have E5 := Lib.hid (E4.out.trans (hb9.mono E4.out.size)); clear hb9)
      | fail)
  have Z9 := Lib.hid (Z4.out.under E5.out)
  have HPS := Lib.hid (own_slugs (own_under HPO.out E5.out))
  clear HPO HOO L6 L8 E0 E1 E2 E3 E4 E5 HSS Z4 hlb hls z1 z2 z3 z4 z5 z6
  have q0 := hole_box Z9.out.h
  obtain ⟨x0, x1⟩ := slug_box Z9.out.s
  obtain ⟨x2, x3⟩ := slug_box Z9.out.t
  go_wp2_with fail
  refine (P2.out _ _ _ Z9.out.b HPS.out).mono ?_
  rintro e w10 ⟨A10, c10, B10, d10, rfl, qo10, _, hb10⟩
  have Z10 := Lib.hid (Z9.out.under hb10)
  have HQ10 := Lib.hid qo10
  clear qo10 hb10 q0 x0 x1 x2 x3 Z9 HPS
  have q0 := hole_box Z10.out.h
  obtain ⟨x0, x1⟩ := slug_box Z10.out.s
  obtain ⟨x2, x3⟩ := slug_box Z10.out.t
  go_wp2_with fail
  refine (P3.out _ Z10.out.b).mono ?_
  rintro e w11 ⟨A11, c11, B11, d11, rfl, ro11, _, hb11⟩
  have Z11 := Lib.hid (Z10.out.under hb11)
  have HQ11 := Lib.hid (own_under HQ10.out hb11)
  have HR11 := Lib.hid (own_slugs ro11)
  clear ro11 hb11 q0 x0 x1 x2 x3 Z10 HQ10
  have q0 := hole_box Z11.out.h
  obtain ⟨x0, x1⟩ := slug_box Z11.out.s
  obtain ⟨x2, x3⟩ := slug_box Z11.out.t
  go_wp2_with fail
  refine (P4.out _ _ _ Z11.out.b HR11.out).mono ?_
  rintro e w12 ⟨A12, c12, B12, d12, rfl, qo12, _, hb12⟩
  have Z12 := Lib.hid (Z11.out.under hb12)
  have HQ12 := Lib.hid (own_slugs (own_under HQ11.out hb12))
  have HR12 := Lib.hid (own_slugs qo12)
  clear qo12 hb12 q0 x0 x1 x2 x3 Z11 HQ11 HR11
  go_wp2_with fail
  refine (TS.out qq _ _ _ _ _ LP.out.2.2 HQ12.out HR12.out).mono ?_
  rintro e w13 ⟨rfl, hb13⟩
  have Z13 := Lib.hid (Z12.out.under hb13)
  clear hb13
  go_wp2_with fail
  refine (law03_awake _).mono ?_
  rintro e w14 ⟨rfl, hb14⟩
  go_wp2_with fail
  go_ret
  have h1 := Z13.out.b.trans (hb14.mono Z13.out.b.size)
  exact ⟨rfl, W3.out.trans (h1.mono W3.out.size)⟩

end Go.Proofs.Ytkommjjpaklenaa
