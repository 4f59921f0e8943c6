/- The law FluidEncloses, walked. -/
import Derived.Test.YtkommjjpaklenaaFGood
import Derived.Test.YtkommjjpaklenaaFEnclose
import Derived.Test.YtkommjjpaklenaaFOpen
import Derived.BigRegion
namespace Mpl
/-- the segment that the law makes of a segment -/
def shortSeg (s : Seg) : Seg := ⟨1 + s.Long % 10000, s.Rise % (1 + s.Long % 10000 + 1), 1 + s.Area % 50, s.Gap⟩
theorem shortSeg_good {s : Seg} (h : SegMade s) : GoodSeg (shortSeg s) ∧ (shortSeg s).Long ≤ 10000 ∧ (shortSeg s).Area ≤ 50 ∧ 1 ≤ (shortSeg s).Long ∧ 1 ≤ (shortSeg s).Area := by
  obtain ⟨l0, l1, r0, r1, a0, a1, g0, g1⟩ := h
  have h1 := Int.emod_nonneg s.Rise (show 1 + s.Long % 10000 + 1 ≠ 0 by omega)
  have h2 := Int.emod_lt_of_pos s.Rise (show 0 < 1 + s.Long % 10000 + 1 by omega)
  unfold shortSeg
  refine ⟨⟨?_, ?_, ?_, ?_, ?_, ?_, ?_⟩, ?_, ?_, ?_, ?_⟩ <;> simp only <;> omega
theorem aboveUp_bound {h : List Seg} {l : List Slug} (g : GoodCol h l) {u : Int} (k : Nat) (hk : k ≤ l.length) : 0 ≤ aboveUp l u k ∧ aboveUp l u k ≤ 40000 * heldUp l k := by
  induction k with
  | zero => simp [aboveUp, heldUp, sumFrom]
  | succ k ih =>
    have i := ih (by omega)
    have w := g.w0 k (by omega)
    have v := g.v1 k (by omega)
    rw [aboveUp_step, heldUp_step, Int.mul_add]
    have m0 : 0 ≤ max 0 (min (slg l k).Volume (heldUp l (k + 1) - u)) := by omega
    have m1 : max 0 (min (slg l k).Volume (heldUp l (k + 1) - u)) ≤ (slg l k).Volume := by omega
    have a0 : 0 ≤ aboveAt l u k := Int.mul_nonneg w.1 m0
    have a1 : aboveAt l u k ≤ 40000 * (slg l k).Volume := Int.mul_le_mul w.2 m1 m0 (by omega)
    omega
theorem mul_bound {x y X Y : Int} (h1 : -X ≤ x) (h2 : x ≤ X) (h3 : 0 ≤ y) (h4 : y ≤ Y) (hX : 0 ≤ X) : -(X * Y) ≤ x * y ∧ x * y ≤ X * Y := by
  have a := Int.mul_le_mul_of_nonneg_right h2 h3
  have b := Int.mul_le_mul_of_nonneg_left h4 hX
  have c := Int.mul_le_mul_of_nonneg_right h1 h3
  rw [Int.neg_mul] at c
  omega
theorem hole_one {s : Seg} (hs : GoodSeg s) (hl : s.Long ≤ 1048576) : GoodHole [s] := by
  refine ⟨by simp, by simp, fun i hi => ?_, by simp [longUp, sumFrom, longAt, sg]; omega⟩
  have : i = 0 := by simpa using hi
  subst this
  simpa [sg] using hs
end Mpl
namespace Go.Proofs.Ytkommjjpaklenaa
open Go.RowKit Go.Shelf Mpl

/-- the first segment of a row of the call's own -/
theorem own_first {w : World} {base : Nat} {A : Option Addr} {c : Nat} {h : List Seg} (ho : w.ownsRow base 29 4 (.slice A h.length c) h.length (h.flatMap segC)) (h0 : 0 < h.length) :
    ∃ g cur, A = some ⟨g, 0, none⟩ ∧ base ≤ g ∧ Box w g 29 cur ∧ cur[0]? = some (.int .i64 (sg h 0).Long) ∧ cur[1]? = some (.int .i64 (sg h 0).Rise) ∧ cur[2]? = some (.int .i64 (sg h 0).Area) ∧ cur[3]? = some (.int .i64 (sg h 0).Gap) := by
  obtain ⟨A', c', hv, hc, hs⟩ := Segs.own ho
  injection hv with h1 _ h2
  subst h1 h2
  rcases ho.2 with ⟨h1, h2⟩ | ⟨g, cap, cur, h1, hg, hh, _⟩
  · omega
  · injection h1 with h1 _ _
    subst h1
    obtain ⟨b, off, he, _, hcells⟩ := hs h0
    injection he with he
    injection he with e1 e2 _
    subst e1 e2
    have hb : Box w g 29 cur := hh
    obtain ⟨c0, c1, c2, c3⟩ := hcells 0 h0
    simp only [Nat.zero_mul, Nat.zero_add] at c0 c1 c2 c3
    exact ⟨g, cur, rfl, hg, hb, (hb.cell 0).symm.trans c0, (hb.cell 1).symm.trans c1, (hb.cell 2).symm.trans c2, (hb.cell 3).symm.trans c3⟩

set_option maxHeartbeats 8000000 in
set_option maxRecDepth 100000 in
theorem walk_FluidEncloses (l : List Int) (A : Option Addr) (c : Nat) (l2 : List Int) (A2 : Option Addr) (c2 : Nat) (top0 u0 : Int) (w : World) (hl : Ints w w.heap.size A l) (hlin : IntsIn l) (hc : l.length ≤ c) (hm : c ≤ maxLen)
    (hl2 : Ints w w.heap.size A2 l2) (hlin2 : IntsIn l2) (hc2 : l2.length ≤ c2) (hm2 : c2 ≤ maxLen) (h1 : inI64 top0) (h2 : inI64 u0) :
    Calls Try.prog 3 #[.slice A l.length c, .slice A2 l2.length c2, .int .i64 top0, .int .i64 u0] w fun e w' => e = .returned (.bool true) ∧ Below w.heap.size w w' := by
  have HAN := Lib.hid (kit_Annulus l A c w hl hlin (by omega))
  have HKC := Lib.hid (fun h v0 W (hW : Below w.heap.size w W) hv hg => kit_Column h v0 l2 A2 c2 W hv hg (hl2.up hW hW.size) hlin2 (by omega))
  have K1 := Lib.hid (fun w => kit_Mod64 top0 1073741824 w h1 (by omega) (by omega))
  have K2 := Lib.hid (fun V w (hV : 0 < V) (hV2 : V ≤ 5242880001) => kit_Mod64 u0 V w h2 hV (by omega))
  have r1 : 0 ≤ top0 % 1073741824 ∧ top0 % 1073741824 < 1073741824 := by omega
  clear hl hlin hl2 hlin2 h1 h2
  generalize l.length = nl at *
  generalize l2.length = nl2 at *
  generalize top0 % 1073741824 = top at *
  obtain ⟨r10, r11⟩ := r1
  go_enter Try.func3, Try.ntmps3
  go_wp2_with fail
  refine HAN.out.mono ?_
  rintro e w1 ⟨⟨A', c', h, rfl, hown, hann⟩, hb1⟩
  obtain ⟨g, cur, rfl, hg, hbx, e0, e1, e2, e3⟩ := own_first hown hann.pos
  have hcap := own_cap hown
  have hmade := hann.at hann.pos
  have hpos := hann.pos
  have hfew := hann.few
  generalize sg h 0 = s at *
  have SG := Lib.hid (shortSeg_good hmade)
  have MADE := Lib.hid hmade
  obtain ⟨wA, hwA⟩ : ∃ wA, w1.alloc (.cells #[.slice (some ⟨g, 0, none⟩) 1 c'] 25) = wA := ⟨_, rfl⟩
  have W1 := Lib.hid (show Below w.heap.size w wA by rw [← hwA]; exact hb1.alloc hb1.size (.cells #[.slice (some ⟨g, 0, none⟩) 1 c'] 25))
  have BX1 := Lib.hid (show Box wA g 29 cur by rw [← hwA]; exact hbx.alloc _)
  have BH1 := Lib.hid (show Box wA w1.heap.size 25 #[.slice (some ⟨g, 0, none⟩) 1 c'] by rw [← hwA]; exact Box.new _ _ _ rfl)
  have HWA := Lib.hid hwA
  have hglt := hbx.lt
  clear hwA
  obtain ⟨m0, m1, m2, m3, m4, m5, m6, m7⟩ := hmade
  clear hown hann hb1 hbx HAN
  generalize h.length = nh at *
  have y1 : 1 ≤ c' := by omega
  have y2 : (1 : Int) ≤ (c' : Int) := by omega
  go_wp2_with fail
  rw [HWA.out]
  have x0 := (BX1.out.cell 0).trans e0
  have x1 := (BX1.out.cell 1).trans e1
  have x2 := (BX1.out.cell 2).trans e2
  have f0 := BX1.out.frozen 0
  have f2 := BX1.out.frozen 2
  have hgA := BX1.out.lt
  generalize hL : s.Long = sL at *
  generalize hR : s.Rise = sR at *
  generalize hA : s.Area = sA at *
  go_region
  obtain ⟨wB, hwB⟩ : ∃ wB, ((wA.setCell ⟨g, 0, none⟩ (.int .i64 (1 + sL % 10000))).setCell ⟨g, 2, none⟩ (.int .i64 (1 + sA % 50))).drew = wB := ⟨_, rfl⟩
  have hgne : w1.heap.size ≠ g := by omega
  have W2 := Lib.hid (show Below w.heap.size w wB by rw [← hwB]; exact ((W1.out.setCell (p := ⟨g, 0, none⟩) (by simpa using hg) _).setCell (p := ⟨g, 2, none⟩) (by simpa using hg) _).drew)
  have BX2 := Lib.hid (show Box wB g 29 ((cur.setIfInBounds 0 (.int .i64 (1 + sL % 10000))).setIfInBounds 2 (.int .i64 (1 + sA % 50))) by rw [← hwB]; exact ((BX1.out.set_ 0 _).set_ 2 _).drew)
  have BH2 := Lib.hid (show Box wB w1.heap.size 25 #[.slice (some ⟨g, 0, none⟩) 1 c'] by rw [← hwB]; exact ((BH1.out.far hgne _).far hgne _).drew)
  have HWB := Lib.hid hwB
  clear hwB x0 x1 x2 f0 f2
  have n0 : 0 < cur.size := (Array.getElem?_eq_some_iff.1 e0).1
  have n1 : 1 < cur.size := (Array.getElem?_eq_some_iff.1 e1).1
  have n2 : 2 < cur.size := (Array.getElem?_eq_some_iff.1 e2).1
  have n3 : 3 < cur.size := (Array.getElem?_eq_some_iff.1 e3).1
  have x0 : wB.cell? ⟨g, 0, none⟩ = some (.int .i64 (1 + sL % 10000)) := (BX2.out.cell 0).trans (by simp [n0])
  have x1 : wB.cell? ⟨g, 1, none⟩ = some (.int .i64 sR) := (BX2.out.cell 1).trans (by simp [e1])
  have x2 : wB.cell? ⟨g, 2, none⟩ = some (.int .i64 (1 + sA % 50)) := (BX2.out.cell 2).trans (by simp [n2])
  have f1 := BX2.out.frozen 1
  have hgB := BX2.out.lt
  obtain ⟨M, hM⟩ : ∃ M, 1 + sL % 10000 = M := ⟨_, rfl⟩
  have HM := Lib.hid hM
  have M1 : 1 ≤ M := by omega
  have M2 : M ≤ 10000 := by omega
  rw [hM] at x0
  have hz9 : (M + 1 == 0) = false := beq_eq_false_iff_ne.2 (by omega)
  have hwm : IntKind.i64.wrap (sR.tmod (M + 1)) = sR % (M + 1) := by
    rw [Int.tmod_eq_emod_of_nonneg m2]
    have h1 := Int.emod_nonneg sR (show M + 1 ≠ 0 by omega)
    have h2 := Int.emod_lt_of_pos sR (show 0 < M + 1 by omega)
    exact IntWalk.i64_in _ (by omega)
  clear hM
  go_wp2_with fail
  rw [HWB.out, HM.out]
  go_region
  obtain ⟨wC, hwC⟩ : ∃ wC, (wB.setCell ⟨g, 1, none⟩ (.int .i64 (sR % (M + 1)))).drew = wC := ⟨_, rfl⟩
  have W3 := Lib.hid (show Below w.heap.size w wC by rw [← hwC]; exact (W2.out.setCell (p := ⟨g, 1, none⟩) (by simpa using hg) _).drew)
  have BX3 := Lib.hid (show Box wC g 29 (((cur.setIfInBounds 0 (.int .i64 (1 + sL % 10000))).setIfInBounds 2 (.int .i64 (1 + sA % 50))).setIfInBounds 1 (.int .i64 (sR % (M + 1)))) by rw [← hwC]; exact (BX2.out.set_ 1 _).drew)
  have BH3 := Lib.hid (show Box wC w1.heap.size 25 #[.slice (some ⟨g, 0, none⟩) 1 c'] by rw [← hwC]; exact (BH2.out.far hgne _).drew)
  have HWC := Lib.hid hwC
  rw [HWC.out]
  clear hwC x0 x1 x2 f1 HWA HWB HWC hwm hz9
  obtain ⟨S, hS⟩ : ∃ S, shortSeg s = S := ⟨_, rfl⟩
  have sl : S.Long = M := by rw [← hS, ← HM.out, ← hL]; rfl
  have sr : S.Rise = sR % (M + 1) := by rw [← hS, ← HM.out, ← hL, ← hR]; rfl
  have sa : S.Area = 1 + sA % 50 := by rw [← hS, ← hA]; rfl
  have sgp : S.Gap = s.Gap := by rw [← hS]; rfl
  obtain ⟨G1, G2, G3, G4, G5⟩ := SG.out
  rw [hS] at G1 G2 G3 G4 G5
  have x0 : wC.cell? ⟨g, 0, none⟩ = some (.int .i64 S.Long) := (BX3.out.cell 0).trans (by rw [sl]; simp [n0, HM.out])
  have x1 : wC.cell? ⟨g, 1, none⟩ = some (.int .i64 S.Rise) := (BX3.out.cell 1).trans (by rw [sr]; simp [n1])
  have x2 : wC.cell? ⟨g, 2, none⟩ = some (.int .i64 S.Area) := (BX3.out.cell 2).trans (by rw [sa]; simp [n2])
  have x3 : wC.cell? ⟨g, 3, none⟩ = some (.int .i64 S.Gap) := (BX3.out.cell 3).trans (by rw [sgp]; simp [e3])
  have hgC := BX3.out.lt
  have HV3 : Hid (HoleV wC wC.heap.size (.agg #[.slice (some ⟨g, 0, none⟩) 1 c']) [S]) := ⟨some ⟨g, 0, none⟩, c', rfl, fun _ => ⟨g, 0, rfl, hgC, fun i hi => by
    have : i = 0 := by simpa using hi
    subst this
    simpa [sg] using ⟨x0, x1, x2, x3⟩⟩⟩
  have GH := Lib.hid (hole_one G1 (by omega))
  have HK := Lib.hid (HKC.out [S] _ wC W3.out HV3.out GH.out)
  have hseg : sizeUp [S] [S].length = S.Long * S.Area := by simp [sizeUp, sumFrom, sizeAt, sg, segSize]
  rw [hseg] at HK
  have q0 := hole_box BH3.out
  have hv0 : 1 ≤ S.Long * S.Area ∧ S.Long * S.Area ≤ 10000 * 50 := ⟨(seg_size G1).1, Int.mul_le_mul G2 G3 (by omega) (by omega)⟩
  obtain ⟨hv0, hv1⟩ := hv0
  clear sl sr sa sgp hS SG MADE HKC e0 e1 e2 e3 n0 n1 n2 n3 hL hR hA BX1 BX2 BH1 BH2 W1 W2
  go_wp2_with fail
  refine HK.out.mono ?_
  rintro e w2 ⟨⟨A3, c3, ls, rfl, hown2, hcol⟩, hb2⟩
  have hcol' : Colum (sizeUp [S] [S].length) ls := by rw [hseg]; exact hcol
  have GC := Lib.hid (hcol'.good GH.out)
  have HS2 := Lib.hid (own_slugs hown2)
  have HCAP := Lib.hid (own_cap hown2)
  have HV2 := Lib.hid (HV3.out.below hb2)
  have BB2 := Lib.hid hb2
  have W4 := Lib.hid (W3.out.trans (hb2.mono W3.out.size))
  have X4 := Lib.hid (BH3.out.under hb2)
  have hn0 := hcol.pos
  have hn6 := hcol.few
  have p0 := oldCell hb2 hgC x0
  have p1 := oldCell hb2 hgC x1
  have p2 := oldCell hb2 hgC x2
  have hg2 : g < w2.heap.size := by have := hb2.size; omega
  have HUM := Lib.hid (fun k (hk : k ≤ ls.length) => heldUp_mono GC.out hk)
  have HAB := Lib.hid (fun u k (hk : k ≤ ls.length) => aboveUp_bound GC.out (u := u) k hk)
  have HPR := Lib.hid (fun u W (hW : Below w2.heap.size w2 W) u0 u1 => good_Press GC.out top u (HV2.out.below hW) (HS2.out.below hW) HCAP.out r10 (by omega) u0 u1)
  have HBD := Lib.hid (fun u => pressAt_bound GC.out (u := u) r10 (by omega))
  have HLE := Lib.hid (fun u => pressAt_le GC.out top u r10 (by omega))
  have HEN := Lib.hid (fun u h0 h1 => encloses G1 (by omega) GC.out top u h0 h1)
  have HST := Lib.hid (fun k => heldUp_step ls k)
  have HSA := Lib.hid (fun u k => aboveUp_step ls u k)
  rw [hseg] at HUM HPR
  have hss : segSize S = S.Long * S.Area := rfl
  rw [hss] at HEN
  obtain ⟨sb, so, rfl, hsb, hsc⟩ := HS2.out hn0
  have HSC := Lib.hid hsc
  clear hown2 hcol hcol' HK hsc HCAP HV2 x0 x1 x2 x3 q0 HV3 GH
  have g6 := G1.rise0
  have g7 := G1.rise1
  clear G1 hseg hss
  generalize S.Long = L at *
  generalize S.Rise = R at *
  generalize S.Area = Ar at *
  generalize hV' : L * Ar = V at *
  have HV' := Lib.hid hV'
  have hwv : IntKind.i64.wrap (L * Ar) = V := by rw [hV']; exact IntWalk.i64_in _ (by omega)
  clear hV'
  generalize hn : ls.length = n at *
  have HN := Lib.hid hn
  clear hn
  go_wp2_with fail
  go_quiet (fail)
  have BQ := Lib.hid (belowDrewN (Below.refl w2.heap.size w2) nq)
  obtain ⟨wD, hwD⟩ : ∃ wD, w2.drewN nq = wD := ⟨_, rfl⟩
  rw [hwD] at BQ
  rw [hwD]
  have X5 := Lib.hid (X4.out.under BQ.out)
  have q0 := hole_box X5.out
  have d0 := oldCell BQ.out hg2 p0
  have d1 := oldCell BQ.out hg2 p1
  have d2 := oldCell BQ.out hg2 p2
  clear hwD
  have KU := Lib.hid (fun w => K2.out (V + 1) w (by omega) (by omega))
  have hu0 := Int.emod_nonneg u0 (show V + 1 ≠ 0 by omega)
  have hu1 := Int.emod_lt_of_pos u0 (show 0 < V + 1 by omega)
  generalize u0 % (V + 1) = u at *
  have P1 := Lib.hid (fun W hW => HPR.out u W hW hu0 (by omega))
  obtain ⟨bd1, bd2⟩ := HBD.out u
  have le1 := HLE.out u
  obtain ⟨⟨en1, en2⟩, en3⟩ := HEN.out u hu0 (by omega)
  clear HPR HBD HLE HEN K2
  generalize (pressAt [S] ls top u).Lo = al at *
  generalize (pressAt [S] ls top u).Hi = ah at *
  go_wp2_with (go_at_call 20; (first | (with_reducible refine (K1.out _).mono ?_) | (with_reducible refine (KU.out _).mono ?_)); rintro e w' ⟨rfl, rfl⟩)
  refine (P1.out _ BQ.out).mono ?_
  rintro e w3 ⟨rfl, hb3⟩
  have B3 := Lib.hid ((BQ.out.trans (hb3.mono BQ.out.size)).alloc (BQ.out.trans (hb3.mono BQ.out.size)).size (.cells #[.int .i64 al, .int .i64 ah] 34))
  have R3 := Lib.hid (Box.new w3 34 #[.int .i64 al, .int .i64 ah] rfl)
  clear hb3 q0 d0 d1 d2 X5 X4 BH3 BX3
  obtain ⟨wE, hwE⟩ : ∃ wE, w3.alloc (.cells #[.int .i64 al, .int .i64 ah] 34) = wE := ⟨_, rfl⟩
  rw [hwE] at B3 R3
  have HWE := Lib.hid hwE
  clear hwE
  go_wp2_with fail
  rw [HWE.out]
  go_loopw [15, 16, 17] (fun s15 s16 s17 wr => ∃ k : Nat, k ≤ n ∧ s17 = .int .i64 k ∧ s16 = .int .i64 (heldUp ls k) ∧ s15 = .int .i64 (aboveUp ls u k) ∧ Hid (Below wE.heap.size wE wr)) (fun _ _ s17 _ => n - (intOf s17).toNat)
  case atStart => exact ⟨0, Nat.zero_le _, rfl, rfl, rfl, Below.refl _ _⟩
  case round =>
    obtain ⟨k, hk, rfl, rfl, rfl, BW⟩ := hrel
    have BE := Lib.hid (B3.out.trans (BW.out.mono B3.out.size))
    by_cases hlt : k < n
    · obtain ⟨c0, c1⟩ := HSC.out k hlt
      replace c0 := oldCell BE.out hsb c0
      replace c1 := oldCell BE.out hsb c1
      have y4 : sb < wr.heap.size := by have := BE.out.size; omega
      have t0 : decide (k < n) = true := decide_eq_true hlt
      have b1 : (k : Int) < (n : Int) := by omega
      have b2 : (0 : Int) ≤ (k : Int) := by omega
      obtain ⟨z0, z1⟩ := HUM.out k (by omega)
      have hq := HUM.out (k + 1) (by omega)
      have hst := HST.out k
      have hsa := HSA.out u k
      have hab := HAB.out u k (by omega)
      have hab2 := HAB.out u (k + 1) (by omega)
      rw [hst] at hq hab2
      rw [hsa] at hab2
      have hdef : aboveAt ls u k = (slg ls k).Weight * max 0 (min (slg ls k).Volume (heldUp ls k + (slg ls k).Volume - u)) := by unfold aboveAt; rw [hst]
      obtain ⟨z2, z3⟩ := hq
      obtain ⟨z4, z5⟩ := hab
      obtain ⟨z6, z7⟩ := hab2
      have HQ := Lib.hid hst
      have HQA := Lib.hid hsa
      clear hst hsa
      generalize aboveAt ls u k = ab at *
      generalize heldUp ls k = Sk at *
      generalize aboveUp ls u k = Ak at *
      generalize (slg ls k).Volume = z at *
      generalize (slg ls k).Weight = wt at *
      obtain ⟨mn, hmn⟩ : ∃ mn, (if Sk + z - u < z then Sk + z - u else z) = mn := ⟨_, rfl⟩
      obtain ⟨mx, hmx⟩ : ∃ mx, (if (0 : Int) < mn then mn else 0) = mx := ⟨_, rfl⟩
      have hmx2 : mx = max 0 (min z (Sk + z - u)) := by rw [← hmx, ← hmn]; split <;> split <;> omega
      rw [← hmx2] at hdef
      have hwm : IntKind.i64.wrap (wt * mx) = ab := by rw [← hdef]; exact IntWalk.i64_in _ (by omega)
      clear hmx2
      go_wp2_with fail
      go_quiet (fail)
      go_wp2_with fail
      go_roundw
      case rel => exact ⟨k + 1, hlt, by go_num, by rw [HQ.out], by rw [HQA.out, hdef], belowDrewN BW.out _⟩
      case measure => simp [intOf]; omega
    · obtain rfl : k = n := by omega
      have t0 : decide (k < k) = false := decide_eq_false hlt
      have hab := HAB.out u k (by omega)
      have hfu := HUM.out k (by omega)
      obtain ⟨a0, a1⟩ := rng_box (R3.out.under BW.out)
      have d1 := oldCell BE.out hg2 p1
      have d0 := oldCell BE.out hg2 p0
      have d2 := oldCell BE.out hg2 p2
      have hg3 : g < wr.heap.size := by have := BE.out.size; omega
      have BF := Lib.hid (W4.out.trans (BE.out.mono W4.out.size))
      clear R3 HAB HUM HST HSA HSC KU P1 K1
      generalize aboveUp ls u k = E at *
      have k1 := mul_bound (x := E) (y := R) (X := 20000000000) (Y := 10000) (by omega) (by omega) g6 (by omega) (by omega)
      have k2 := mul_bound (x := al - top) (y := V) (X := 2001073741824) (Y := 500000) (by omega) (by omega) (by omega) (by omega) (by omega)
      have k3 := mul_bound (x := ah - top) (y := V) (X := 2001073741824) (Y := 500000) (by omega) (by omega) (by omega) (by omega) (by omega)
      obtain ⟨k10, k11⟩ := k1
      obtain ⟨k20, k21⟩ := k2
      obtain ⟨k30, k31⟩ := k3
      have v1 : decide (E * R < (al - top) * V) = false := decide_eq_false (by rw [Int.sub_mul]; omega)
      have v2 : decide ((ah - top) * V < E * R) = false := decide_eq_false (by rw [Int.sub_mul]; omega)
      have h1 : IntKind.i64.wrap (E * R) = E * R := IntWalk.i64_in _ (by omega)
      have h2 : IntKind.i64.wrap ((al - top) * V) = (al - top) * V := IntWalk.i64_in _ (by omega)
      have h3 : IntKind.i64.wrap ((ah - top) * V) = (ah - top) * V := IntWalk.i64_in _ (by omega)
      by_cases hR : R = 0
      · have r1 : (R == 0) = true := beq_iff_eq.2 hR
        have r2 : (al == ah) = true := beq_iff_eq.2 (en3 (.inl hR))
        clear en1 en2 en3 hab hfu hR
        go_wp2_with fail
        go_quiet (fail)
        go_wp2_with fail
        refine (law03_awake _).mono ?_
        rintro e w9 ⟨rfl, hb9⟩
        go_wp2_with fail
        go_ret
        have BQ2 := belowDrewN BF.out nq
        exact ⟨rfl, BQ2.trans (hb9.mono BQ2.size)⟩
      have r1 : (R == 0) = false := beq_eq_false_iff_ne.2 hR
      clear hR
      by_cases hL : R = L
      · have r2 : (R == L) = true := beq_iff_eq.2 hL
        by_cases hA : Ar = 1
        · have r3 : (Ar == 1) = true := beq_iff_eq.2 hA
          have r4 : (al == ah) = true := beq_iff_eq.2 (en3 (.inr (by rw [← HV'.out, hA, hL, Int.mul_one])))
          clear en1 en2 en3 hab hfu hA hL
          go_wp2_with fail
          go_quiet (fail)
          go_wp2_with fail
          refine (law03_awake _).mono ?_
          rintro e w9 ⟨rfl, hb9⟩
          go_wp2_with fail
          go_ret
          have BQ2 := belowDrewN BF.out nq
          exact ⟨rfl, BQ2.trans (hb9.mono BQ2.size)⟩
        · have r3 : (Ar == 1) = false := beq_eq_false_iff_ne.2 hA
          clear en1 en2 en3 hab hfu hA hL
          go_wp2_with fail
          go_quiet (fail)
          go_wp2_with fail
          refine (law03_awake _).mono ?_
          rintro e w9 ⟨rfl, hb9⟩
          go_wp2_with fail
          go_ret
          have BQ2 := belowDrewN BF.out nq
          exact ⟨rfl, BQ2.trans (hb9.mono BQ2.size)⟩
      · have r2 : (R == L) = false := beq_eq_false_iff_ne.2 hL
        clear en1 en2 en3 hab hfu hL
        go_wp2_with fail
        go_quiet (fail)
        go_wp2_with fail
        refine (law03_awake _).mono ?_
        rintro e w9 ⟨rfl, hb9⟩
        go_wp2_with fail
        go_ret
        have BQ2 := belowDrewN BF.out nq
        exact ⟨rfl, BQ2.trans (hb9.mono BQ2.size)⟩

end Go.Proofs.Ytkommjjpaklenaa
