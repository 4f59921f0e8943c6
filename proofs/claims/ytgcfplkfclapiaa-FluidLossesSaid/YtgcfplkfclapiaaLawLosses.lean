/- The law FluidLosses, walked. -/
import Derived.Test.YtgcfplkfclapiaaFLoss
import Derived.Test.YtgcfplkfclapiaaFGood
import Derived.Test.YtgcfplkfclapiaaFOpen
import Derived.Test.YtgcfplkfclapiaaFAnnulus
import Derived.StillTactics
namespace Mpl
/-- the segment that the law makes of a segment -/
def lossSeg (s : Seg) : Seg := ⟨s.Long, s.Rise, 100 + s.Area, 20 + s.Gap % 100⟩
/-- behind k segments -/
def lossTo (h : List Seg) (k : Nat) : List Seg := (h.take k).map lossSeg ++ h.drop k
theorem lossTo_len (h : List Seg) (k : Nat) : (lossTo h k).length = h.length := by
  simp only [lossTo, List.length_append, List.length_map, List.length_take, List.length_drop]
  omega
theorem lossTo_zero (h : List Seg) : lossTo h 0 = h := by simp [lossTo]
theorem lossTo_all (h : List Seg) : lossTo h h.length = h.map lossSeg := by simp [lossTo]
theorem sg_lossTo (h : List Seg) (k i : Nat) (hi : i < h.length) : sg (lossTo h k) i = if i < k then lossSeg (sg h i) else sg h i := by
  unfold sg lossTo
  by_cases hk : i < k
  · rw [if_pos hk, List.getElem?_append_left (by simp; omega), List.getElem?_map, List.getElem?_take, if_pos hk]
    simp [hi]
  · rw [if_neg hk, List.getElem?_append_right (by simp; omega), List.getElem?_drop]
    simp only [List.length_map, List.length_take]
    congr 2
    omega
theorem sg_lossSeg (h : List Seg) (i : Nat) (hi : i < h.length) : sg (h.map lossSeg) i = lossSeg (sg h i) := by
  simp [sg, hi]
theorem longUp_congr {a b : List Seg} (n : Nat) (h : ∀ i, i < n → (sg a i).Long = (sg b i).Long) : longUp a n = longUp b n := by
  induction n with
  | zero => rfl
  | succ n ih => rw [longUp_step, longUp_step, ih fun i hi => h i (by omega), h n (by omega)]
theorem Annular.lossGood {h : List Seg} (a : Annular h) : GoodHole (h.map lossSeg) ∧ 100 ≤ sizeUp (h.map lossSeg) (h.map lossSeg).length := by
  have hg : GoodHole (h.map lossSeg) := by
    refine ⟨by simpa using a.pos, by have := a.few; simp; omega, fun i hi => ?_, ?_⟩
    · have hi' : i < h.length := by simpa using hi
      rw [sg_lossSeg h i hi']
      have m := a.at hi'
      obtain ⟨l0, l1, r0, r1, a0, a1, g0, g1⟩ := m
      exact ⟨l0, r0, r1, by show 1 ≤ 100 + _; omega, by show 100 + _ ≤ 5000; omega, by show 1 ≤ 20 + _; omega, by show 20 + _ ≤ 200; omega⟩
    · rw [List.length_map, longUp_congr (b := h) h.length fun i hi => by rw [sg_lossSeg h i hi]; rfl]
      exact a.good.long
  refine ⟨hg, ?_⟩
  have hp : 0 < (h.map lossSeg).length := by simpa using a.pos
  have m := sizeUp_mono (h.map lossSeg) hg.fair 1 _ hp (Nat.le_refl _)
  have e : sizeUp (h.map lossSeg) 1 = segSize (sg (h.map lossSeg) 0) := by rw [sizeUp_step]; simp [sizeUp, sumFrom]
  rw [sg_lossSeg h 0 a.pos] at e
  have s := a.at a.pos
  have h1 : 100 ≤ segSize (lossSeg (sg h 0)) := by
    show 100 ≤ (sg h 0).Long * (100 + (sg h 0).Area)
    have := Int.mul_le_mul s.l0 (show (100 : Int) ≤ 100 + (sg h 0).Area by have := s.a0; omega) (by omega) (by have := s.l0; omega)
    omega
  omega
end Mpl
namespace Go.Proofs.Ytgcfplkfclapiaa
open Go.RowKit Go.Shelf Mpl

/-- a row of segments that may be written -/
def SegsW (W : World) (b off : Nat) (hs : List Seg) : Prop := (∃ cs, Box W b 29 cs) ∧ Segs W W.heap.size (some ⟨b, off, none⟩) hs
theorem SegsW.under {W W' : World} {b off : Nat} {hs : List Seg} (h : SegsW W b off hs) (hb : Below W.heap.size W W') : SegsW W' b off hs := by
  obtain ⟨⟨cs, h1⟩, h2⟩ := h
  exact ⟨⟨cs, h1.under hb⟩, h2.up hb hb.size⟩
theorem SegsW.drew {W : World} {b off : Nat} {hs : List Seg} (h : SegsW W b off hs) : SegsW W.drew b off hs := h.under (Below.refl _ W).drew
theorem SegsW.far {W : World} {b off : Nat} {hs : List Seg} (h : SegsW W b off hs) {p : Addr} (hp : b ≠ p.block) (u : Value) : SegsW (W.setCell p u) b off hs := by
  obtain ⟨⟨cs, h1⟩, h2⟩ := h
  refine ⟨⟨cs, h1.far hp u⟩, fun h0 => ?_⟩
  obtain ⟨b', off', e, hl, hc⟩ := h2 h0
  cases e
  refine ⟨b, off, rfl, by simpa using hl, fun i hi => ?_⟩
  obtain ⟨c0, c1, c2, c3⟩ := hc i hi
  have o : ∀ j, (W.setCell p u).cell? ⟨b, j, none⟩ = W.cell? ⟨b, j, none⟩ := fun j => World.cell?_setCell_far W p _ u (fun e => hp e.symm)
  exact ⟨(o _).trans c0, (o _).trans c1, (o _).trans c2, (o _).trans c3⟩
theorem SegsW.cells {W : World} {b off : Nat} {hs : List Seg} (h : SegsW W b off hs) {k : Nat} (hk : k < hs.length) :
    W.cell? ⟨b, off + k * 4, none⟩ = some (.int .i64 (sg hs k).Long) ∧ W.cell? ⟨b, off + k * 4 + 1, none⟩ = some (.int .i64 (sg hs k).Rise) ∧ W.cell? ⟨b, off + k * 4 + 2, none⟩ = some (.int .i64 (sg hs k).Area) ∧ W.cell? ⟨b, off + k * 4 + 3, none⟩ = some (.int .i64 (sg hs k).Gap) := by
  obtain ⟨b', off', e, _, hc⟩ := h.2 (by omega)
  cases e
  exact hc k hk
theorem SegsW.put {W : World} {b off : Nat} {h : List Seg} {k : Nat} (hs : SegsW W b off (lossTo h k)) (hk : k < h.length) :
    SegsW ((W.setCell ⟨b, off + k * 4 + 3, none⟩ (.int .i64 (20 + (sg h k).Gap % 100))).drew.setCell ⟨b, off + k * 4 + 2, none⟩ (.int .i64 (100 + (sg h k).Area))).drew b off (lossTo h (k + 1)) := by
  obtain ⟨⟨cs, h1⟩, h2⟩ := hs
  refine ⟨⟨_, ((h1.set_ (off + k * 4 + 3) _).drew.set_ (off + k * 4 + 2) _).drew⟩, fun _ => ?_⟩
  obtain ⟨b', off', e, hl, hc⟩ := h2 (by rw [lossTo_len]; omega)
  cases e
  refine ⟨b, off, rfl, by simpa using hl, fun i hi => ?_⟩
  rw [lossTo_len] at hi
  obtain ⟨c0, c1, c2, c3⟩ := hc i (by rw [lossTo_len]; exact hi)
  have o : ∀ j, j ≠ off + k * 4 + 3 → j ≠ off + k * 4 + 2 → ((W.setCell ⟨b, off + k * 4 + 3, none⟩ (.int .i64 (20 + (sg h k).Gap % 100))).drew.setCell ⟨b, off + k * 4 + 2, none⟩ (.int .i64 (100 + (sg h k).Area))).drew.cell? ⟨b, j, none⟩ = W.cell? ⟨b, j, none⟩ := fun j n1 n2 => by
    refine (World.cell?_setCell_other _ _ _ _ (by simp <;> omega)).trans ?_
    exact World.cell?_setCell_other _ _ _ _ (by simp <;> omega)
  rw [sg_lossTo h k i hi] at c0 c1 c2 c3
  rw [sg_lossTo h (k + 1) i hi]
  by_cases hik : i = k
  · subst hik
    rw [if_neg (by omega)] at c0 c1 c2 c3
    rw [if_pos (by omega)]
    refine ⟨(o _ (by omega) (by omega)).trans c0, (o _ (by omega) (by omega)).trans c1, ?_, ?_⟩
    · have : (W.setCell ⟨b, off + i * 4 + 3, none⟩ (.int .i64 (20 + (sg h i).Gap % 100))).drew.cell? ⟨b, off + i * 4 + 2, none⟩ = some (.int .i64 (sg h i).Area) := (World.cell?_setCell_other _ _ _ _ (by simp)).trans c2
      exact World.cell?_setCell_same _ _ _ this
    · refine (World.cell?_setCell_other _ _ _ _ (by simp)).trans ?_
      exact World.cell?_setCell_same _ _ _ c3
  · have e1 : (i < k + 1) ↔ (i < k) := by omega
    simp only [e1]
    exact ⟨(o _ (by omega) (by omega)).trans c0, (o _ (by omega) (by omega)).trans c1, (o _ (by omega) (by omega)).trans c2, (o _ (by omega) (by omega)).trans c3⟩
theorem segsW_own {W : World} {base : Nat} {A : Option Addr} {n c : Nat} {hs : List Seg} (ho : W.ownsRow base 29 4 (.slice A n c) n (hs.flatMap segC)) (h0 : 0 < hs.length) :
    ∃ b off, A = some ⟨b, off, none⟩ ∧ base ≤ b ∧ b < W.heap.size ∧ SegsW W b off hs := by
  obtain ⟨A2, c2, hv2, hcc, hsegs⟩ := Segs.own ho
  injection hv2 with hA _ _
  subst hA
  rcases ho.2 with ⟨h1, _⟩ | ⟨g, cap, cur, h1, hg, hh, _⟩
  · obtain ⟨b, off, e, _⟩ := hsegs h0
    rw [e] at h1
    cases h1
  · injection h1 with h1 _ _
    subst h1
    have hb : Box W g 29 cur := hh
    exact ⟨g, 0, rfl, hg, hb.lt, ⟨_, hb⟩, hsegs⟩

set_option maxHeartbeats 8000000 in
set_option maxRecDepth 100000 in
theorem walk_FluidLosses (l : List Int) (A : Option Addr) (c : Nat) (m0 : Mud) (flow0 u0 hi0 : Int) (w : World) (hl : Ints w w.heap.size A l) (hlin : IntsIn l) (hc : l.length ≤ c) (hm : c ≤ maxLen) (hmud : MudNum m0) (h1 : inI64 flow0) (h2 : inI64 u0) (h3 : inI64 hi0) :
    Calls Try.prog 14 #[.slice A l.length c, mudV m0, .int .i64 flow0, .int .i64 u0, .int .i64 hi0] w fun e w' => e = .returned (.bool true) ∧ Below w.heap.size w w' := by
  obtain ⟨n1, n2⟩ := hmud
  have HAN := Lib.hid (fun W (hW : Below w.heap.size w W) => kit_Annulus l A c W (hl.up hW hW.size) hlin (by omega))
  have K1 := Lib.hid (fun w => quiet_of (kit_Mod64 m0.Yield 2000 w n1 (by omega) (by omega)))
  have K2 := Lib.hid (fun w => quiet_of (kit_Mod64 m0.Visc 500 w n2 (by omega) (by omega)))
  have K3 := Lib.hid (fun w => kit_Mod64 flow0 50000 w h1 (by omega) (by omega))
  have K4 := Lib.hid (fun V w (hV : 0 < V) (hV2 : V ≤ 5242880001) => kit_Mod64 u0 V w h2 hV (by omega))
  have K5 := Lib.hid (fun V w (hV : 0 < V) (hV2 : V ≤ 5242880001) => kit_Mod64 hi0 V w h3 hV (by omega))
  have r1 : 0 ≤ m0.Yield % 2000 ∧ m0.Yield % 2000 ≤ 1999 := by omega
  have r2 : 0 ≤ m0.Visc % 500 ∧ m0.Visc % 500 ≤ 499 := by omega
  unfold mudV
  clear hl hlin h1 h2 h3 n1 n2
  generalize l.length = nl at *
  generalize m0.Yield % 2000 = Y at *
  generalize m0.Visc % 500 = Vi at *
  generalize flow0 % 50000 = flow at *
  obtain ⟨r10, r11⟩ := r1
  obtain ⟨r20, r21⟩ := r2
  obtain ⟨w0, hw0⟩ : ∃ w0, w.alloc (.cells #[.int .i64 m0.Yield, .int .i64 m0.Visc] 47) = w0 := ⟨_, rfl⟩
  have BM0 := Lib.hid (show Box w0 w.heap.size 47 #[.int .i64 m0.Yield, .int .i64 m0.Visc] by rw [← hw0]; exact Box.new w _ _ rfl)
  have W0 := Lib.hid (show Below w.heap.size w w0 by rw [← hw0]; exact (by repeat (first | exact Below.refl _ _ | assumption | refine Below.setCell ?_ (by first | (simp; done) | (simp; omega)) _ | refine belowDrewN ?_ _ | refine Below.drew ?_ | refine Below.alloc ?_ (by first | (simp; done) | (simp; omega)) _)))
  have HS0 := Lib.hid (show w0.heap.size = w.heap.size + 1 by rw [← hw0]; simp)
  have HW0 := Lib.hid hw0
  clear hw0
  go_enter Try.func14, Try.ntmps14
  go_wp2_with fail
  rw [HW0.out]
  refine (HAN.out _ W0.out).mono ?_
  rintro e w1 ⟨⟨A', c', h, rfl, hown, hann⟩, hb1⟩
  obtain ⟨b, off, rfl, hgb, hbl, hsw⟩ := segsW_own hown hann.pos
  rw [HS0.out] at hgb
  have hcap := own_cap hown
  obtain ⟨w2, hw2⟩ : ∃ w2, w1.alloc (.cells #[.slice (some ⟨b, off, none⟩) h.length c'] 25) = w2 := ⟨_, rfl⟩
  have BH2 := Lib.hid (show Box w2 w1.heap.size 25 #[.slice (some ⟨b, off, none⟩) h.length c'] by rw [← hw2]; exact Box.new _ _ _ rfl)
  have BM2 := Lib.hid (show Box w2 w.heap.size 47 #[.int .i64 m0.Yield, .int .i64 m0.Visc] by rw [← hw2]; exact (BM0.out.under hb1).alloc _)
  have W2 := Lib.hid (show Below w.heap.size w w2 by rw [← hw2]; exact (W0.out.trans (hb1.mono W0.out.size)).alloc (W0.out.trans (hb1.mono W0.out.size)).size _)
  have SW2 := Lib.hid (show SegsW w2 b off (lossTo h 0) by rw [← hw2, lossTo_zero]; exact hsw.under ((Below.refl _ _).alloc (Nat.le_refl _) _))
  have hlt01 : w.heap.size < w1.heap.size := (BM0.out.under hb1).lt
  have HW2 := Lib.hid hw2
  have HANN := Lib.hid hann
  have hfew := hann.few
  clear hown hann hsw hb1 HAN BM0 W0 hw2
  generalize hnh : h.length = n at *
  have HN := Lib.hid hnh
  clear hnh
  have q0 := hole_box BH2.out
  go_wp2_with fail
  rw [HW2.out]
  go_wp2_with fail
  go_loopw [12] (fun s12 wr => ∃ k : Nat, k ≤ n ∧ s12 = .int .i64 k ∧ Hid (SegsW wr b off (lossTo h k)) ∧ Hid (Box wr w1.heap.size 25 #[.slice (some ⟨b, off, none⟩) n c']) ∧ Hid (Box wr w.heap.size 47 #[.int .i64 m0.Yield, .int .i64 m0.Visc]) ∧ Hid (Below w.heap.size w wr)) (fun s12 _ => n - (intOf s12).toNat)
  case atStart => exact ⟨0, Nat.zero_le _, rfl, SW2, BH2, BM2, W2⟩
  case round =>
    obtain ⟨k, hk, rfl, SW, BH, BM, BW⟩ := hrel
    have p0 := hole_box BH.out
    by_cases hlt : k < n
    · have t0 : decide (k < n) = true := decide_eq_true hlt
      have z0 : (k : Int) < (n : Int) := by omega
      have hkh : k < h.length := by rw [HN.out]; exact hlt
      have hcs := SW.out.cells (k := k) (by rw [lossTo_len]; exact hkh)
      rw [sg_lossTo h k k hkh, if_neg (Nat.lt_irrefl k)] at hcs
      obtain ⟨c0, c1, c2, c3⟩ := hcs
      have mk := HANN.out.at hkh
      obtain ⟨_, _, _, _, a0, a1, g0, g1⟩ := mk
      have SWP := Lib.hid (SW.out.put hkh)
      have fz : ∀ j, wr.frozen? ⟨b, j, none⟩ = false := fun j => by obtain ⟨⟨cs, hb⟩, _⟩ := SW.out; exact hb.frozen j
      have f3 := fz (off + k * 4 + 3)
      have hbw := BH.out.lt
      clear fz
      generalize (sg h k).Gap = G at *
      generalize (sg h k).Area = AR at *
      have hg2 : 0 ≤ G % 100 ∧ G % 100 ≤ 99 := by omega
      obtain ⟨hg20, hg21⟩ := hg2
      go_upto_region 5 with fail
      refine wp_region_still_tail 13 mixed (by kernel_rfl) ?_
      simp only [List.take_succ_cons, List.take_zero, List.drop_succ_cons, List.drop_zero]
      repeat still_step
      refine wpStill_nil ?_
      go_upto_region 6 with fail
      have hne1 : w1.heap.size ≠ b := by omega
      have hne2 : w.heap.size ≠ b := by omega
      have BH4 := (BH.out.far (p := ⟨b, off + k * 4 + 3, none⟩) hne1 (.int .i64 (20 + G % 100))).drew
      have BM4 := Lib.hid ((BM.out.far (p := ⟨b, off + k * 4 + 3, none⟩) hne2 (.int .i64 (20 + G % 100))).drew)
      have BW4 := Lib.hid ((BW.out.setCell (p := ⟨b, off + k * 4 + 3, none⟩) (by simp; omega) (.int .i64 (20 + G % 100))).drew)
      have c2' : (wr.setCell ⟨b, off + k * 4 + 3, none⟩ (.int .i64 (20 + G % 100))).drew.cell? ⟨b, off + k * 4 + 2, none⟩ = some (.int .i64 AR) := (World.cell?_setCell_other _ _ _ _ (by simp)).trans c2
      have f2' : (wr.setCell ⟨b, off + k * 4 + 3, none⟩ (.int .i64 (20 + G % 100))).drew.frozen? ⟨b, off + k * 4 + 2, none⟩ = false := by
        obtain ⟨⟨cs, hb⟩, _⟩ := SW.out
        exact ((hb.set_ (off + k * 4 + 3) (.int .i64 (20 + G % 100))).drew).frozen _
      obtain ⟨w4, hw4⟩ : ∃ w4, (wr.setCell ⟨b, off + k * 4 + 3, none⟩ (.int .i64 (20 + G % 100))).drew = w4 := ⟨_, rfl⟩
      rw [hw4] at BH4 BM4 BW4 c2' f2' SWP
      rw [hw4]
      have BH4H := Lib.hid BH4
      have p4 := hole_box BH4
      clear c0 c1 c2 c3 f3 p0 hw4 SW BH BM BW BH4
      refine wp_region_still_tail 12 mixed (by kernel_rfl) ?_
      simp only [List.take_succ_cons, List.take_zero, List.drop_succ_cons, List.drop_zero]
      repeat still_step
      refine wpStill_nil ?_
      go_wp2_with fail
      go_roundw
      case rel => exact ⟨k + 1, hlt, by go_num, SWP.out, (BH4H.out.far (p := ⟨b, off + k * 4 + 2, none⟩) hne1 _).drew, (BM4.out.far (p := ⟨b, off + k * 4 + 2, none⟩) hne2 _).drew, (BW4.out.setCell (p := ⟨b, off + k * 4 + 2, none⟩) (by simp; omega) _).drew⟩
      case measure => simp [intOf]; omega
    · obtain rfl : k = n := by omega
      have t0 : decide (k < k) = false := decide_eq_false hlt
      have hG := HANN.out.lossGood
      have SWF := SW.out
      rw [← HN.out, lossTo_all] at SWF
      have HSW := Lib.hid SWF
      have GH := Lib.hid hG.1
      have hV0 := hG.2
      have hV1 := (hG.1.ups (h.map lossSeg).length (Nat.le_refl _)).2.2.2.2.2
      have hlen : (h.map lossSeg).length = k := by rw [List.length_map, HN.out]
      clear SWF SW hG SW2 BH2 BM2 W2 HW2 HW0 HS0 q0
      generalize h.map lossSeg = hh at *
      have HLEN := Lib.hid hlen
      clear hlen HANN HN
      have HLL := Lib.hid (fun m flow u v hu huv hv => loss_laws GH.out m flow (u := u) (v := v) hu huv hv)
      go_upto_region 7 with fail
      obtain ⟨y0, y1⟩ := mud_box BM.out
      have f0 := BM.out.frozen 0
      have f1 := BM.out.frozen 1
      refine wp_region_still_tail 8 mixed (by kernel_rfl) ?_
      simp only [List.take_succ_cons, List.take_zero, List.drop_succ_cons, List.drop_zero]
      repeat still_step
      still_call (K1.out _)
      repeat still_step
      still_call (K2.out _)
      repeat still_step
      refine wpStill_nil ?_
      change wpList _ _ _ _ _ wr.drew
      go_upto_region 8 with fail
      have hne1 : w1.heap.size ≠ w.heap.size := by omega
      have hne2 : b ≠ w.heap.size := by omega
      have SW5 := Lib.hid (((HSW.out.far (p := ⟨w.heap.size, 0, none⟩) hne2 (.int .i64 Y)).far (p := ⟨w.heap.size, 1, none⟩) hne2 (.int .i64 (1 + Vi))).drew)
      have BM5 : Box ((wr.setCell ⟨w.heap.size, 0, none⟩ (.int .i64 Y)).setCell ⟨w.heap.size, 1, none⟩ (.int .i64 (1 + Vi))).drew w.heap.size 47 #[.int .i64 Y, .int .i64 (1 + Vi)] := by simpa using ((BM.out.set_ 0 (.int .i64 Y)).set_ 1 (.int .i64 (1 + Vi))).drew
      have BH5 := ((BH.out.far (p := ⟨w.heap.size, 0, none⟩) hne1 (.int .i64 Y)).far (p := ⟨w.heap.size, 1, none⟩) hne1 (.int .i64 (1 + Vi))).drew
      have W5 := Lib.hid (((BW.out.setCell (p := ⟨w.heap.size, 0, none⟩) (Nat.le_refl _) (.int .i64 Y)).setCell (p := ⟨w.heap.size, 1, none⟩) (Nat.le_refl _) (.int .i64 (1 + Vi))).drew)
      obtain ⟨w5, hw5⟩ : ∃ w5, ((wr.setCell ⟨w.heap.size, 0, none⟩ (.int .i64 Y)).setCell ⟨w.heap.size, 1, none⟩ (.int .i64 (1 + Vi))).drew = w5 := ⟨_, rfl⟩
      rw [hw5] at SW5 BM5 BH5 W5
      rw [hw5]
      clear hw5 HSW BH BM BW y0 y1 f0 f1 p0
      have HVV := Lib.hid (fun W (hW : Below w5.heap.size w5 W) => (⟨some ⟨b, off, none⟩, c', by rw [HLEN.out], (SW5.out.2).up hW hW.size⟩ : HoleV W W.heap.size (.agg #[.slice (some ⟨b, off, none⟩) k c']) hh))
      have hvo : volumeOf hh = sizeUp hh hh.length := by unfold volumeOf; rw [if_pos ((checkHole_iff hh).2 GH.out)]
      have HVOL := Lib.hid (fun W (hW : Below w5.heap.size w5 W) => fluid_Volume _ hh W (HVV.out W hW) GH.out.in_ (by have := GH.out.few; unfold maxLen; omega))
      rw [hvo] at HVOL
      have HLO := Lib.hid (fun m flow u W (hW : Below w5.heap.size w5 W) => fluid_Loss _ hh m flow u W (HVV.out W hW) GH.out.in_ (by have := GH.out.few; unfold maxLen; omega))
      generalize sizeUp hh hh.length = V at *
      have XM5 := Lib.hid BM5
      have XH5 := Lib.hid BH5
      obtain ⟨y0, y1⟩ := mud_box BM5
      have p0 := hole_box BH5
      clear hvo BM5 BH5
      go_upto_region 9 with (go_at_call 20; refine (K3.out _).mono ?_; rintro e w' ⟨rfl, rfl⟩)
      go_wp2_with fail
      refine (HVOL.out _ (Below.refl _ _)).mono ?_
      rintro e w6 ⟨rfl, hb6⟩
      have XM6 := Lib.hid (XM5.out.under hb6)
      have XH6 := Lib.hid (XH5.out.under hb6)
      have W6 := Lib.hid (W5.out.trans (hb6.mono W5.out.size))
      have B56 := Lib.hid hb6
      have KU := Lib.hid (fun w => K4.out (V + 1) w (by omega) (by omega))
      have u00 := Int.emod_nonneg u0 (show V + 1 ≠ 0 by omega)
      have u01 := Int.emod_lt_of_pos u0 (show 0 < V + 1 by omega)
      have KH := Lib.hid (fun w => K5.out (V - u0 % (V + 1) + 1) w (by omega) (by omega))
      have h00 := Int.emod_nonneg hi0 (show V - u0 % (V + 1) + 1 ≠ 0 by omega)
      have h01 := Int.emod_lt_of_pos hi0 (show 0 < V - u0 % (V + 1) + 1 by omega)
      have t100 : decide (V < 100) = false := decide_eq_false (by omega)
      clear hb6 XM5 XH5 W5 K3 K4 K5 HVOL y0 y1 p0 K1 K2
      generalize u0 % (V + 1) = u at *
      generalize hi0 % (V - u + 1) = d at *
      have g0 : IntKind.i64.wrap (V + 1) = V + 1 := IntWalk.i64_in _ (by omega)
      have g1 : IntKind.i64.wrap (V - u) = V - u := IntWalk.i64_in _ (by omega)
      have g2 : IntKind.i64.wrap (V - u + 1) = V - u + 1 := IntWalk.i64_in _ (by omega)
      have g3 : IntKind.i64.wrap (u + d) = u + d := IntWalk.i64_in _ (by omega)
      have L1 := Lib.hid (fun W hW => HLO.out ⟨Y, 1 + Vi⟩ flow u W hW)
      have L2 := Lib.hid (fun W hW => HLO.out ⟨Y, 1 + Vi⟩ flow (u + d) W hW)
      have L3 := Lib.hid (fun W hW => HLO.out ⟨Y, 1 + Vi⟩ flow V W hW)
      have HL := Lib.hid (HLL.out ⟨Y, 1 + Vi⟩ flow u (u + d) u00 (by omega) (by omega))
      unfold mudV at L1 L2 L3
      clear HLO HLL
      generalize lossOf hh ⟨Y, 1 + Vi⟩ flow u = ra at *
      generalize lossOf hh ⟨Y, 1 + Vi⟩ flow (u + d) = rb at *
      generalize lossOf hh ⟨Y, 1 + Vi⟩ flow V = rc at *
      obtain ⟨⟨aL, aH⟩, ab⟩ := ra
      obtain ⟨⟨bL, bH⟩, bb⟩ := rb
      obtain ⟨⟨cL, cH⟩, cb⟩ := rc
      obtain ⟨hl1, hl2, hl3⟩ := HL.out
      simp only [] at hl1 hl2 hl3
      subst hl1
      subst hl2
      obtain ⟨y0, y1⟩ := mud_box XM6.out
      have p0 := hole_box XH6.out
      clear HL h01 u01
      go_wp2_with (go_at_call 20; (first | (with_reducible refine (KU.out _).mono ?_) | (with_reducible refine (KH.out _).mono ?_)); rintro e w' ⟨rfl, rfl⟩)
      refine (L1.out _ B56.out).mono ?_
      rintro e w7 ⟨rfl, hb7⟩
      have XM7 := Lib.hid ((XM6.out.under hb7).alloc (.cells #[.int .i64 aL, .int .i64 aH] 34))
      have XH7 := Lib.hid ((XH6.out.under hb7).alloc (.cells #[.int .i64 aL, .int .i64 aH] 34))
      have R7 := Lib.hid (show Box (w7.alloc (.cells #[.int .i64 aL, .int .i64 aH] 34)) w7.heap.size 34 #[.int .i64 aL, .int .i64 aH] from Box.new _ _ _ rfl)
      have BB7 := B56.out.trans (hb7.mono B56.out.size)
      have B57 := Lib.hid (BB7.alloc BB7.size (.cells #[.int .i64 aL, .int .i64 aH] 34))
      have WW7 := W6.out.trans (hb7.mono W6.out.size)
      have W7 := Lib.hid (WW7.alloc WW7.size (.cells #[.int .i64 aL, .int .i64 aH] 34))
      obtain ⟨v7, hv7⟩ : ∃ v7, w7.alloc (.cells #[.int .i64 aL, .int .i64 aH] 34) = v7 := ⟨_, rfl⟩
      have HV7 := Lib.hid hv7
      rw [hv7] at XM7 XH7 R7 B57 W7
      clear hb7 y0 y1 p0 BB7 WW7 hv7
      obtain ⟨y0, y1⟩ := mud_box XM7.out
      have p0 := hole_box XH7.out
      go_upto_region 15 with fail
      rw [HV7.out]
      go_wp2_with fail
      refine (L2.out _ B57.out).mono ?_
      rintro e w8 ⟨rfl, hb8⟩
      have XM8 := Lib.hid ((XM7.out.under hb8).alloc (.cells #[.int .i64 bL, .int .i64 bH] 34))
      have XH8 := Lib.hid ((XH7.out.under hb8).alloc (.cells #[.int .i64 bL, .int .i64 bH] 34))
      have R8 := Lib.hid (show Box (w8.alloc (.cells #[.int .i64 bL, .int .i64 bH] 34)) w8.heap.size 34 #[.int .i64 bL, .int .i64 bH] from Box.new _ _ _ rfl)
      have BB8 := B57.out.trans (hb8.mono B57.out.size)
      have B58 := Lib.hid (BB8.alloc BB8.size (.cells #[.int .i64 bL, .int .i64 bH] 34))
      have WW8 := W7.out.trans (hb8.mono W7.out.size)
      have W8 := Lib.hid (WW8.alloc WW8.size (.cells #[.int .i64 bL, .int .i64 bH] 34))
      have R78 := Lib.hid ((R7.out.under hb8).alloc (.cells #[.int .i64 bL, .int .i64 bH] 34))
      obtain ⟨v8, hv8⟩ : ∃ v8, w8.alloc (.cells #[.int .i64 bL, .int .i64 bH] 34) = v8 := ⟨_, rfl⟩
      have HV8 := Lib.hid hv8
      rw [hv8] at XM8 XH8 R8 B58 W8 R78
      clear hb8 y0 y1 p0 BB8 WW8 hv8
      obtain ⟨y0, y1⟩ := mud_box XM8.out
      have p0 := hole_box XH8.out
      go_upto_region 16 with fail
      rw [HV8.out]
      go_wp2_with fail
      refine (L3.out _ B58.out).mono ?_
      rintro e w9 ⟨rfl, hb9⟩
      have XM9 := Lib.hid ((XM8.out.under hb9).alloc (.cells #[.int .i64 cL, .int .i64 cH] 34))
      have XH9 := Lib.hid ((XH8.out.under hb9).alloc (.cells #[.int .i64 cL, .int .i64 cH] 34))
      have R9 := Lib.hid (show Box (w9.alloc (.cells #[.int .i64 cL, .int .i64 cH] 34)) w9.heap.size 34 #[.int .i64 cL, .int .i64 cH] from Box.new _ _ _ rfl)
      have BB9 := B58.out.trans (hb9.mono B58.out.size)
      have B59 := Lib.hid (BB9.alloc BB9.size (.cells #[.int .i64 cL, .int .i64 cH] 34))
      have WW9 := W8.out.trans (hb9.mono W8.out.size)
      have W9 := Lib.hid (WW9.alloc WW9.size (.cells #[.int .i64 cL, .int .i64 cH] 34))
      have R79 := Lib.hid ((R78.out.under hb9).alloc (.cells #[.int .i64 cL, .int .i64 cH] 34))
      have R89 := Lib.hid ((R8.out.under hb9).alloc (.cells #[.int .i64 cL, .int .i64 cH] 34))
      obtain ⟨v9, hv9⟩ : ∃ v9, w9.alloc (.cells #[.int .i64 cL, .int .i64 cH] 34) = v9 := ⟨_, rfl⟩
      have HV9 := Lib.hid hv9
      rw [hv9] at XM9 XH9 R9 B59 W9 R79 R89
      clear hb9 y0 y1 p0 BB9 WW9 hv9
      obtain ⟨y0, y1⟩ := mud_box XM9.out
      have p0 := hole_box XH9.out
      go_upto_region 17 with fail
      rw [HV9.out]
      have ca0 := (show v9.cell? ⟨w7.heap.size, 0, none⟩ = some (.int .i64 aL) from R79.out.cell 0)
      have ca1 := (show v9.cell? ⟨w7.heap.size, 1, none⟩ = some (.int .i64 aH) from R79.out.cell 1)
      have cb0 := (show v9.cell? ⟨w8.heap.size, 0, none⟩ = some (.int .i64 bL) from R89.out.cell 0)
      have cb1 := (show v9.cell? ⟨w8.heap.size, 1, none⟩ = some (.int .i64 bH) from R89.out.cell 1)
      have cc0 := (show v9.cell? ⟨w9.heap.size, 0, none⟩ = some (.int .i64 cL) from R9.out.cell 0)
      have cc1 := (show v9.cell? ⟨w9.heap.size, 1, none⟩ = some (.int .i64 cH) from R9.out.cell 1)
      clear y0 y1 p0
      cases ab
      · go_wp2_with fail
        refine (law03_awake _).mono ?_
        rintro e wz ⟨rfl, hbz⟩
        go_wp2_with fail
        go_ret
        exact ⟨rfl, W9.out.trans (hbz.mono W9.out.size)⟩
      · obtain ⟨e1, e2, e3, e4, e5⟩ := hl3 rfl
        injection e5 with e5 e6
        subst e5
        subst e6
        have hq := run_eql_rng
        have d1 : decide (bL ≤ aL) = true := decide_eq_true e1
        have d2 : decide (bH ≤ aH) = true := decide_eq_true e2
        have d3 : decide (aL ≤ aH) = true := decide_eq_true e3
        have d4 : decide (0 ≤ bL) = true := decide_eq_true e4
        clear e1 e2 e3 e4 hl3
        go_wp2_with fail
        refine (law03_awake _).mono ?_
        rintro e wz ⟨rfl, hbz⟩
        go_wp2_with fail
        go_ret
        exact ⟨rfl, W9.out.trans (hbz.mono W9.out.size)⟩
end Go.Proofs.Ytgcfplkfclapiaa
