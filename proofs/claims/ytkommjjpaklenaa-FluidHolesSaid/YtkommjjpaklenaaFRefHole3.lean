/- Walks of the reference of layer 3: the height line of a hole. -/
import Derived.Test.YtkommjjpaklenaaFRefHole2
import Derived.Test.YtkommjjpaklenaaHeld3
import Derived.Deep.DeepCutAuto
namespace Go.Proofs.Ytkommjjpaklenaa
open Go.RowKit Go.Shelf Mpl


theorem own_two {w : World} {base : Nat} {e t : TypeId} {v : Value} {n g : Nat} {xs : List Value} {a b : Value} (h : w.ownsRow base e 2 v n xs) (hb : Box w g t #[a, b]) (hn : 2 ≤ n) : v.ownBlock ≠ some g := by
  rcases h.2 with ⟨h1, h2⟩ | ⟨g', cap, cur, h1, _, hh, h3, _, h4, _⟩
  · omega
  · rw [h1]
    intro he
    have : g' = g := by simpa [Value.ownBlock] using he
    subst this
    unfold Box at hb
    rw [hh] at hb
    injection hb with hb
    injection hb with hb _ _
    rw [hb] at h4
    simp at h4
    omega

/-- behind one segment more -/
theorem refHeight_next {w W2 w7 : World} {M k g7 cap7 nn c : Nat} {A : Option Addr} {l : List Seg} {v : Value} {su ru : Int} (hM : w.heap.size + 1 < M) (hk2 : heightKnots l (k + 1) = heightKnots l k ++ [⟨su, ru⟩])
    (OWN : W2.ownsRow M 55 2 v (k + 1) ((heightKnots l k).flatMap knotC)) (NE : v.ownBlock ≠ some (M + 1 + 1)) (C1 : Box W2 (M + 1) 49 #[v]) (C2 : Box W2 (M + 1 + 1) 55 #[.int .i64 su, .int .i64 ru]) (CH : Box W2 w.heap.size 25 #[.slice A nn c]) (CR : Box W2 (w.heap.size + 1) 49 #[.slice none 0 0])
    (HB2 : Below w.heap.size w W2) {o : Obj} (hown7 : w7.ownsRow M 55 2 (.slice (some ⟨g7, 0, none⟩) (k + 1 + 1) cap7) (k + 1 + 1) ((heightKnots l k).flatMap knotC ++ knotC ⟨su, ru⟩)) (hg7 : (W2.alloc o).grownBy w7 v.ownBlock) :
    (w7.setCell ⟨M + 1, 0, none⟩ (.slice (some ⟨g7, 0, none⟩) (k + 1 + 1) cap7)).ownsRow M 55 2 (.slice (some ⟨g7, 0, none⟩) (k + 1 + 1) cap7) (k + 1 + 1) ((heightKnots l (k + 1)).flatMap knotC) ∧ (Value.slice (some ⟨g7, 0, none⟩) (k + 1 + 1) cap7).ownBlock ≠ some (M + 1 + 1) ∧
    (Box (w7.setCell ⟨M + 1, 0, none⟩ (.slice (some ⟨g7, 0, none⟩) (k + 1 + 1) cap7)) (M + 1) 49 #[.slice (some ⟨g7, 0, none⟩) (k + 1 + 1) cap7] ∧ Box (w7.setCell ⟨M + 1, 0, none⟩ (.slice (some ⟨g7, 0, none⟩) (k + 1 + 1) cap7)) (M + 1 + 1) 55 #[.int .i64 su, .int .i64 ru] ∧ Box (w7.setCell ⟨M + 1, 0, none⟩ (.slice (some ⟨g7, 0, none⟩) (k + 1 + 1) cap7)) w.heap.size 25 #[.slice A nn c] ∧ Box (w7.setCell ⟨M + 1, 0, none⟩ (.slice (some ⟨g7, 0, none⟩) (k + 1 + 1) cap7)) (w.heap.size + 1) 49 #[.slice none 0 0]) ∧
    Below w.heap.size w (w7.setCell ⟨M + 1, 0, none⟩ (.slice (some ⟨g7, 0, none⟩) (k + 1 + 1) cap7)) := by
  have hba : Below W2.heap.size W2 (W2.alloc o) := (Below.refl _ _).alloc (Nat.le_refl _) _
  have D1 := C1.under hba
  have D2 := C2.under hba
  have DR := CR.under hba
  have DH := CH.under hba
  have DO := own_under OWN hba
  have n1 := own_box DO D1 (by decide)
  have n3 := own_box DO DR (by decide)
  have n4 := own_box DO DH (by decide)
  have E1 := D1.grownRow hg7 n1
  have E2 := D2.grownRow hg7 NE
  have ER := DR.grownRow hg7 n3
  have EH := DH.grownRow hg7 n4
  have hBl : Below w.heap.size w w7 := HB2.trans ⟨hg7.os.trans hba.os, hg7.tape.trans hba.tape, hg7.output.trans hba.output, Nat.le_trans hba.size hg7.size, fun i hi => by
    have hs := HB2.size
    refine (hg7.block i (by have := hba.size; omega) fun he => ?_).trans (hba.block i (by omega))
    rcases DO.2 with ⟨h, _⟩ | ⟨g', cap, cur, h, hgg, _, _⟩
    · rw [h] at he; simp [Value.ownBlock] at he
    · rw [h] at he
      have : i = g' := by simpa [Value.ownBlock] using he
      omega⟩
  have hne7 : (Value.slice (some ⟨g7, 0, none⟩) (k + 1 + 1) cap7).ownBlock ≠ some (M + 1) := own_box hown7 E1 (by decide)
  refine ⟨?_, own_two hown7 E2 (by omega), ⟨by simpa using E1.set_ 0 (.slice (some ⟨g7, 0, none⟩) (k + 1 + 1) cap7), E2.far (by simp) _, EH.far (by simp; omega) _, ER.far (by simp; omega) _⟩, hBl.setCell (p := ⟨M + 1, 0, none⟩) (by simp; omega) _⟩
  have := own_set (p := ⟨M + 1, 0, none⟩) hown7 hne7 (.slice (some ⟨g7, 0, none⟩) (k + 1 + 1) cap7)
  rw [hk2, List.flatMap_append]
  simpa using this

set_option maxHeartbeats 4000000 in
set_option maxRecDepth 100000 in
theorem ref03_Height (v0 : Value) (l : List Seg) (w : World) (hv : HoleV w w.heap.size v0 l) :
    Calls Try.prog 30 #[v0] w fun e w' => (∃ v, e = .returned v ∧ LineV w' w'.heap.size v (heightOf l)) ∧ Below w.heap.size w w' := by
  have hvv := hv
  obtain ⟨A, c, rfl, hS⟩ := hv
  obtain ⟨w0, hw0⟩ : ∃ w0, (w.alloc (.cells #[.slice A l.length c] 25)).alloc (.cells #[.slice none 0 0] 49) = w0 := ⟨_, rfl⟩
  have hB0 : Below w.heap.size w w0 := by rw [← hw0]; exact (by repeat (first | exact Below.refl _ _ | assumption | refine Below.setCell ?_ (by first | (simp; done) | (simp; omega)) _ | refine belowDrewN ?_ _ | refine Below.drew ?_ | refine Below.alloc ?_ (by first | (simp; done) | (simp; omega)) _))
  have B0 := Lib.hid (show Box w0 w.heap.size 25 #[.slice A l.length c] by rw [← hw0]; exact (Box.new w _ _ rfl).alloc _)
  have B1 := Lib.hid (show Box w0 (w.heap.size + 1) 49 #[.slice none 0 0] by rw [← hw0]; exact Box.new _ _ _ (by simp))
  have HC := Lib.hid (ref03_CheckHole _ l w0 (hvv.below hB0))
  have HW0 := Lib.hid hw0
  have HB0 := Lib.hid hB0
  clear hw0 hB0 hvv
  by_cases h0 : checkHole l = 0
  case neg =>
    have hh : Hid (heightOf l = []) := by simp [Hid, heightOf, h0]
    have hz : (checkHole l != 0) = true := by simpa using h0
    clear h0 hS
    generalize checkHole l = ch at *
    generalize l.length = n at *
    have q0 := hole_box B0.out
    go_enter Try.func30, Try.ntmps30
    go_wp2_with fail
    rw [HW0.out]
    go_wp2_with fail
    refine HC.out.mono ?_
    rintro e w1 ⟨rfl, hb1⟩
    have b1 := B1.out.under hb1
    have q1 := b1.cell 0
    have f1 := b1.frozen 0
    simp only [List.getElem?_toArray, List.getElem?_cons_zero] at q1
    have BB := Lib.hid b1
    have HB1 := Lib.hid (HB0.out.trans (hb1.mono HB0.out.size))
    clear b1 hb1
    go_wp2_with fail
    refine bodyPost_ret (results_cell1 rfl _ _ _ (w.heap.size + 1) (.agg #[.slice none 0 0]) rfl (load_line (t := 49) (by simpa using BB.out.set_ 0 (.slice none 0 0)))) rfl ⟨⟨_, rfl, none, 0, ?_, ?_⟩, ?_⟩
    · rw [hh.out]; rfl
    · rw [hh.out]; exact fun h => absurd h (by simp)
    · exact HB1.out.setCell (p := ⟨w.heap.size + 1, 0, none⟩) (by simp) _
  have hg := (checkHole_iff l).1 h0
  have HG := Lib.hid hg
  have hh : Hid (heightOf l = heightKnots l l.length) := heightOf_good hg
  rw [h0] at HC
  obtain ⟨b, off, rfl, hb, hc⟩ := hS hg.pos
  have HCC := Lib.hid hc
  have hfew := hg.few
  clear hS hc hg h0
  have HSU := Lib.hid (fun k => hk_succ l k)
  have HLEN := Lib.hid (fun k => hk_len l k)
  have hk0 : Hid ((heightKnots l 0).flatMap knotC = [.int .i64 0, .int .i64 0]) := by simp [Hid, heightKnots, knotC, sizeUp, riseUp, sumFrom]
  generalize hn : l.length = n at *
  have HN := Lib.hid hn
  clear hn
  obtain ⟨i0, hi0, hz0, hz1, hz2⟩ := info_parts info_Knot
  have q0 := hole_box B0.out
  go_enter Try.func30, Try.ntmps30
  go_wp2_with fail
  rw [HW0.out]
  go_wp2_with fail
  refine HC.out.mono ?_
  rintro e w1 ⟨rfl, hb1⟩
  obtain ⟨w3, hw3⟩ : ∃ w3, ((w1.alloc (.cells #[.int .i64 0, .int .i64 0] 55)).alloc (.cells #[.slice (some ⟨w1.heap.size, 0, none⟩) 1 1] 49)).alloc (.cells #[.int .i64 0, .int .i64 0] 55) = w3 := ⟨_, rfl⟩
  have HW3 := Lib.hid hw3
  have hlt : w.heap.size + 1 < w1.heap.size := (B1.out.under hb1).lt
  have b1 := B1.out.under hb1
  have OW := Lib.hid (show w3.ownsRow w1.heap.size 55 2 (.slice (some ⟨w1.heap.size, 0, none⟩) 1 1) 1 [.int .i64 0, .int .i64 0] by rw [← hw3]; exact ((World.ownsRow_lit (base := w1.heap.size) (e := 55) (size := 2) w1 #[.int .i64 0, .int .i64 0] 1 (Nat.le_refl _) (by unfold maxLen; omega) rfl).alloc _).alloc _)
  have X1 := Lib.hid (show Box w3 (w1.heap.size + 1) 49 #[.slice (some ⟨w1.heap.size, 0, none⟩) 1 1] by rw [← hw3]; exact (Box.new _ _ _ (by simp)).alloc _)
  have X2 := Lib.hid (show Box w3 (w1.heap.size + 1 + 1) 55 #[.int .i64 0, .int .i64 0] by rw [← hw3]; exact Box.new _ _ _ (by simp))
  have X3 := Lib.hid (show Box w3 w.heap.size 25 #[.slice (some ⟨b, off, none⟩) n c] by rw [← hw3]; exact (((B0.out.under hb1).alloc _).alloc _).alloc _)
  have X4 := Lib.hid (show Box w3 (w.heap.size + 1) 49 #[.slice none 0 0] by rw [← hw3]; exact ((b1.alloc _).alloc _).alloc _)
  have hb3 : Below w1.heap.size w1 w3 := by rw [← hw3]; exact (((Below.refl _ _).alloc (Nat.le_refl _) _).alloc (by simp) _).alloc (by simp; omega) _
  have h01 := HB0.out.trans (hb1.mono HB0.out.size)
  have X5 := Lib.hid (h01.trans (hb3.mono h01.size))
  have X6 := Lib.hid (show w1.heap.size + 1 + 1 + 1 ≤ w3.heap.size by rw [← hw3]; simp)
  clear hw3 hb3 h01 b1 hb1 q0
  go_wp2_with fail
  rw [HW3.out]
  go_loopw [5] (fun s5 wr => ∃ (k : Nat) (v : Value), k ≤ n ∧ s5 = .int .i64 k ∧ Hid (wr.ownsRow w1.heap.size 55 2 v (k + 1) ((heightKnots l k).flatMap knotC)) ∧ Hid (v.ownBlock ≠ some (w1.heap.size + 1 + 1)) ∧ Hid (Box wr (w1.heap.size + 1) 49 #[v] ∧ Box wr (w1.heap.size + 1 + 1) 55 #[.int .i64 (sizeUp l k), .int .i64 (riseUp l k)] ∧ Box wr w.heap.size 25 #[.slice (some ⟨b, off, none⟩) n c] ∧ Box wr (w.heap.size + 1) 49 #[.slice none 0 0]) ∧ Hid (Below w.heap.size w wr) ∧ Hid (w1.heap.size + 1 + 1 + 1 ≤ wr.heap.size)) (fun s5 _ => n - (intOf s5).toNat)
  case atStart => exact ⟨0, .slice (some ⟨w1.heap.size, 0, none⟩) 1 1, Nat.zero_le _, rfl, (by unfold Hid; rw [hk0.out]; exact OW.out), (by unfold Hid; simp [Value.ownBlock]; omega), ⟨X1.out, X2.out, X3.out, X4.out⟩, X5, X6⟩
  case round =>
    obtain ⟨k, v, hk, rfl, hown, hne, hbx, BW, hsz⟩ := hrel
    have q0 := hole_box hbx.out.2.2.1
    have hsz' := BW.out.size
    by_cases hlt' : k < n
    · obtain ⟨c0, c1, c2, c3⟩ := HCC.out k hlt'
      have t0 : decide (k < n) = true := decide_eq_true hlt'
      have d0 := oldCell BW.out hb c0
      have d1 := oldCell BW.out hb c1
      have d2 := oldCell BW.out hb c2
      have hbw : b < wr.heap.size := by omega
      have hst := Lib.hid (sizeUp_step l k)
      have hsr := Lib.hid (riseUp_step l k)
      have hu := HG.out.ups k (by rw [HN.out]; omega)
      obtain ⟨_, y1, y2, y3, u5, u6⟩ := hu
      have hs2 := HG.out.seg (k := k) (by rw [HN.out]; exact hlt')
      obtain ⟨y4, z1, z2⟩ := hs2
      have hfr := HG.out.fair k (by rw [HN.out]; exact hlt')
      obtain ⟨y5, y6⟩ := And.intro hfr.rise0 hfr.rise1
      have hse : Hid (segSize (sg l k) = (sg l k).Long * (sg l k).Area) := rfl
      have hkk := Lib.hid (HSU.out k)
      rw [hst.out, hsr.out] at hkk
      have e0 := hbx.out.2.1.cell 0
      have e1 := hbx.out.2.1.cell 1
      have f0 := hbx.out.2.1.frozen 0
      have f1 := hbx.out.2.1.frozen 1
      simp only [List.getElem?_toArray, List.getElem?_cons_zero, List.getElem?_cons_succ] at e0 e1
      clear c0 c1 c2 c3 hfr
      generalize hSk : sizeUp l k = S at *
      generalize hRk : riseUp l k = R at *
      generalize hS1 : sizeUp l (k + 1) = S1 at *
      generalize hR1 : riseUp l (k + 1) = R1 at *
      have HS1 := Lib.hid hS1
      have HR1 := Lib.hid hR1
      clear hSk hS1 hRk hR1
      generalize segSize (sg l k) = z at *
      generalize sg l k = s at *
      have hw1 : IntKind.i64.wrap (s.Long * s.Area) = z := by rw [← hse.out]; exact IntWalk.i64_in _ (by omega)
      have hw2 : IntKind.i64.wrap (S + z) = S + z := IntWalk.i64_in _ (by omega)
      have hw3 : IntKind.i64.wrap (R + s.Rise) = R + s.Rise := IntWalk.i64_in _ (by omega)
      have b1 : (k : Int) < (n : Int) := by omega
      have b2 : (0 : Int) ≤ (k : Int) := by omega
      have hkb := hbx.out.2.1.lt
      go_upto_region 8 with fail
      go_cut [] (fun wx => Hid (((wr.setCell ⟨w1.heap.size + 1 + 1, 0, none⟩ (.int .i64 (S + z))).setCell ⟨w1.heap.size + 1 + 1, 1, none⟩ (.int .i64 (R + s.Rise))).drew = wx))
      case first =>
        have SS : (fun (f : Bool) (w' : World) => (w'.cell? ⟨w.heap.size, 0, none⟩ = some (.slice (some ⟨b, off, none⟩) n c) ∧ w'.cell? ⟨b, off + k * 4, none⟩ = some (.int .i64 s.Long) ∧ w'.cell? ⟨b, off + k * 4 + 1, none⟩ = some (.int .i64 s.Rise) ∧ w'.cell? ⟨b, off + k * 4 + 2, none⟩ = some (.int .i64 s.Area)) ∧ (f = false → w'.cell? ⟨w1.heap.size + 1 + 1, 0, none⟩ = some (.int .i64 S) ∧ w'.cell? ⟨w1.heap.size + 1 + 1, 1, none⟩ = some (.int .i64 R))) false wr.drew := ⟨⟨q0, d0, d1, d2⟩, fun _ => ⟨e0, e1⟩⟩
        refine AnyMid.begin (q := 26) (S := (fun (f : Bool) (w' : World) => (w'.cell? ⟨w.heap.size, 0, none⟩ = some (.slice (some ⟨b, off, none⟩) n c) ∧ w'.cell? ⟨b, off + k * 4, none⟩ = some (.int .i64 s.Long) ∧ w'.cell? ⟨b, off + k * 4 + 1, none⟩ = some (.int .i64 s.Rise) ∧ w'.cell? ⟨b, off + k * 4 + 2, none⟩ = some (.int .i64 s.Area)) ∧ (f = false → w'.cell? ⟨w1.heap.size + 1 + 1, 0, none⟩ = some (.int .i64 S) ∧ w'.cell? ⟨w1.heap.size + 1 + 1, 1, none⟩ = some (.int .i64 R)))) (Z := fun i => i == 28) mixed ?_
        refine AnyMid.take (fun w' : World => (w'.cell? ⟨w.heap.size, 0, none⟩ = some (.slice (some ⟨b, off, none⟩) n c) ∧ w'.cell? ⟨b, off + k * 4, none⟩ = some (.int .i64 s.Long) ∧ w'.cell? ⟨b, off + k * 4 + 1, none⟩ = some (.int .i64 s.Rise) ∧ w'.cell? ⟨b, off + k * 4 + 2, none⟩ = some (.int .i64 s.Area)) ∧ w'.cell? ⟨w1.heap.size + 1 + 1, 0, none⟩ = some (.int .i64 S) ∧ w'.cell? ⟨w1.heap.size + 1 + 1, 1, none⟩ = some (.int .i64 R)) (i := 0) (v := .pointer (some ⟨w1.heap.size + 1 + 1, 0, none⟩)) [28] 6 (by simp) (fun _ h => ⟨h.1, h.2 rfl⟩) (.inl (by decide +kernel)) SS rfl (by decide +kernel) (fun _ _ _ h => h) (Or.inl ⟨by simp [Region.wanted], fun w' hw' => by (obtain ⟨⟨s0, s1, s2, s3⟩, s4, s5⟩ := hw'; go_simp)⟩) ?_
        refine AnyMid.take (fun w' : World => (w'.cell? ⟨w.heap.size, 0, none⟩ = some (.slice (some ⟨b, off, none⟩) n c) ∧ w'.cell? ⟨b, off + k * 4, none⟩ = some (.int .i64 s.Long) ∧ w'.cell? ⟨b, off + k * 4 + 1, none⟩ = some (.int .i64 s.Rise) ∧ w'.cell? ⟨b, off + k * 4 + 2, none⟩ = some (.int .i64 s.Area)) ∧ w'.cell? ⟨w1.heap.size + 1 + 1, 0, none⟩ = some (.int .i64 S) ∧ w'.cell? ⟨w1.heap.size + 1 + 1, 1, none⟩ = some (.int .i64 R)) (i := 1) (v := .int .i64 S) [28] 6 (by simp) (fun _ h => ⟨h.1, h.2 rfl⟩) (.inl (by decide +kernel)) SS rfl (by decide +kernel) (fun _ _ _ h => h) (Or.inl ⟨by simp [Region.wanted], fun w' hw' => by (obtain ⟨⟨s0, s1, s2, s3⟩, s4, s5⟩ := hw'; go_simp)⟩) ?_
        refine AnyMid.take (fun w' : World => (w'.cell? ⟨w.heap.size, 0, none⟩ = some (.slice (some ⟨b, off, none⟩) n c) ∧ w'.cell? ⟨b, off + k * 4, none⟩ = some (.int .i64 s.Long) ∧ w'.cell? ⟨b, off + k * 4 + 1, none⟩ = some (.int .i64 s.Rise) ∧ w'.cell? ⟨b, off + k * 4 + 2, none⟩ = some (.int .i64 s.Area)) ∧ w'.cell? ⟨w1.heap.size + 1 + 1, 0, none⟩ = some (.int .i64 S) ∧ w'.cell? ⟨w1.heap.size + 1 + 1, 1, none⟩ = some (.int .i64 R)) (i := 2) (v := .pointer (some ⟨w.heap.size, 0, none⟩)) [28] 6 (by simp) (fun _ h => ⟨h.1, h.2 rfl⟩) (.inl (by decide +kernel)) SS rfl (by decide +kernel) (fun _ _ _ h => h) (Or.inl ⟨by simp [Region.wanted], fun w' hw' => by (obtain ⟨⟨s0, s1, s2, s3⟩, s4, s5⟩ := hw'; go_simp)⟩) ?_
        refine AnyMid.take (fun w' : World => (w'.cell? ⟨w.heap.size, 0, none⟩ = some (.slice (some ⟨b, off, none⟩) n c) ∧ w'.cell? ⟨b, off + k * 4, none⟩ = some (.int .i64 s.Long) ∧ w'.cell? ⟨b, off + k * 4 + 1, none⟩ = some (.int .i64 s.Rise) ∧ w'.cell? ⟨b, off + k * 4 + 2, none⟩ = some (.int .i64 s.Area)) ∧ w'.cell? ⟨w1.heap.size + 1 + 1, 0, none⟩ = some (.int .i64 S) ∧ w'.cell? ⟨w1.heap.size + 1 + 1, 1, none⟩ = some (.int .i64 R)) (i := 3) (v := .slice (some ⟨b, off, none⟩) n c) [28] 6 (by simp) (fun _ h => ⟨h.1, h.2 rfl⟩) (.inl (by decide +kernel)) SS rfl (by decide +kernel) (fun _ _ _ h => h) (Or.inl ⟨by simp [Region.wanted], fun w' hw' => by (obtain ⟨⟨s0, s1, s2, s3⟩, s4, s5⟩ := hw'; go_simp)⟩) ?_
        refine AnyMid.take (fun w' : World => (w'.cell? ⟨w.heap.size, 0, none⟩ = some (.slice (some ⟨b, off, none⟩) n c) ∧ w'.cell? ⟨b, off + k * 4, none⟩ = some (.int .i64 s.Long) ∧ w'.cell? ⟨b, off + k * 4 + 1, none⟩ = some (.int .i64 s.Rise) ∧ w'.cell? ⟨b, off + k * 4 + 2, none⟩ = some (.int .i64 s.Area)) ∧ w'.cell? ⟨w1.heap.size + 1 + 1, 0, none⟩ = some (.int .i64 S) ∧ w'.cell? ⟨w1.heap.size + 1 + 1, 1, none⟩ = some (.int .i64 R)) (i := 4) (v := .int .i64 k) [28] 6 (by simp) (fun _ h => ⟨h.1, h.2 rfl⟩) (.inl (by decide +kernel)) SS rfl (by decide +kernel) (fun _ _ _ h => h) (Or.inl ⟨by simp [Region.wanted], fun w' hw' => by (obtain ⟨⟨s0, s1, s2, s3⟩, s4, s5⟩ := hw'; go_simp)⟩) ?_
        refine AnyMid.take (fun w' : World => (w'.cell? ⟨w.heap.size, 0, none⟩ = some (.slice (some ⟨b, off, none⟩) n c) ∧ w'.cell? ⟨b, off + k * 4, none⟩ = some (.int .i64 s.Long) ∧ w'.cell? ⟨b, off + k * 4 + 1, none⟩ = some (.int .i64 s.Rise) ∧ w'.cell? ⟨b, off + k * 4 + 2, none⟩ = some (.int .i64 s.Area)) ∧ w'.cell? ⟨w1.heap.size + 1 + 1, 0, none⟩ = some (.int .i64 S) ∧ w'.cell? ⟨w1.heap.size + 1 + 1, 1, none⟩ = some (.int .i64 R)) (i := 5) (v := .pointer (some ⟨b, off + k * 4, none⟩)) [28] 6 (by simp) (fun _ h => ⟨h.1, h.2 rfl⟩) (.inl (by decide +kernel)) SS rfl (by decide +kernel) (fun _ _ _ h => h) (Or.inl ⟨by simp [Region.wanted], fun w' hw' => by (obtain ⟨⟨s0, s1, s2, s3⟩, s4, s5⟩ := hw'; go_simp)⟩) ?_
        refine AnyMid.take (fun w' : World => (w'.cell? ⟨w.heap.size, 0, none⟩ = some (.slice (some ⟨b, off, none⟩) n c) ∧ w'.cell? ⟨b, off + k * 4, none⟩ = some (.int .i64 s.Long) ∧ w'.cell? ⟨b, off + k * 4 + 1, none⟩ = some (.int .i64 s.Rise) ∧ w'.cell? ⟨b, off + k * 4 + 2, none⟩ = some (.int .i64 s.Area)) ∧ w'.cell? ⟨w1.heap.size + 1 + 1, 0, none⟩ = some (.int .i64 S) ∧ w'.cell? ⟨w1.heap.size + 1 + 1, 1, none⟩ = some (.int .i64 R)) (i := 6) (v := .pointer (some ⟨b, off + k * 4, none⟩)) [28] 6 (by simp) (fun _ h => ⟨h.1, h.2 rfl⟩) (.inl (by decide +kernel)) SS rfl (by decide +kernel) (fun _ _ _ h => h) (Or.inl ⟨by simp [Region.wanted], fun w' hw' => by (obtain ⟨⟨s0, s1, s2, s3⟩, s4, s5⟩ := hw'; go_simp)⟩) ?_
        refine AnyMid.take (fun w' : World => (w'.cell? ⟨w.heap.size, 0, none⟩ = some (.slice (some ⟨b, off, none⟩) n c) ∧ w'.cell? ⟨b, off + k * 4, none⟩ = some (.int .i64 s.Long) ∧ w'.cell? ⟨b, off + k * 4 + 1, none⟩ = some (.int .i64 s.Rise) ∧ w'.cell? ⟨b, off + k * 4 + 2, none⟩ = some (.int .i64 s.Area)) ∧ w'.cell? ⟨w1.heap.size + 1 + 1, 0, none⟩ = some (.int .i64 S) ∧ w'.cell? ⟨w1.heap.size + 1 + 1, 1, none⟩ = some (.int .i64 R)) (i := 7) (v := .int .i64 s.Long) [28] 6 (by simp) (fun _ h => ⟨h.1, h.2 rfl⟩) (.inl (by decide +kernel)) SS rfl (by decide +kernel) (fun _ _ _ h => h) (Or.inl ⟨by simp [Region.wanted], fun w' hw' => by (obtain ⟨⟨s0, s1, s2, s3⟩, s4, s5⟩ := hw'; go_simp)⟩) ?_
        refine AnyMid.take (fun w' : World => (w'.cell? ⟨w.heap.size, 0, none⟩ = some (.slice (some ⟨b, off, none⟩) n c) ∧ w'.cell? ⟨b, off + k * 4, none⟩ = some (.int .i64 s.Long) ∧ w'.cell? ⟨b, off + k * 4 + 1, none⟩ = some (.int .i64 s.Rise) ∧ w'.cell? ⟨b, off + k * 4 + 2, none⟩ = some (.int .i64 s.Area)) ∧ w'.cell? ⟨w1.heap.size + 1 + 1, 0, none⟩ = some (.int .i64 S) ∧ w'.cell? ⟨w1.heap.size + 1 + 1, 1, none⟩ = some (.int .i64 R)) (i := 8) (v := .pointer (some ⟨w.heap.size, 0, none⟩)) [28] 6 (by simp) (fun _ h => ⟨h.1, h.2 rfl⟩) (.inl (by decide +kernel)) SS rfl (by decide +kernel) (fun _ _ _ h => h) (Or.inl ⟨by simp [Region.wanted], fun w' hw' => by (obtain ⟨⟨s0, s1, s2, s3⟩, s4, s5⟩ := hw'; go_simp)⟩) ?_
        refine AnyMid.take (fun w' : World => (w'.cell? ⟨w.heap.size, 0, none⟩ = some (.slice (some ⟨b, off, none⟩) n c) ∧ w'.cell? ⟨b, off + k * 4, none⟩ = some (.int .i64 s.Long) ∧ w'.cell? ⟨b, off + k * 4 + 1, none⟩ = some (.int .i64 s.Rise) ∧ w'.cell? ⟨b, off + k * 4 + 2, none⟩ = some (.int .i64 s.Area)) ∧ w'.cell? ⟨w1.heap.size + 1 + 1, 0, none⟩ = some (.int .i64 S) ∧ w'.cell? ⟨w1.heap.size + 1 + 1, 1, none⟩ = some (.int .i64 R)) (i := 9) (v := .slice (some ⟨b, off, none⟩) n c) [28] 6 (by simp) (fun _ h => ⟨h.1, h.2 rfl⟩) (.inl (by decide +kernel)) SS rfl (by decide +kernel) (fun _ _ _ h => h) (Or.inl ⟨by simp [Region.wanted], fun w' hw' => by (obtain ⟨⟨s0, s1, s2, s3⟩, s4, s5⟩ := hw'; go_simp)⟩) ?_
        refine AnyMid.take (fun w' : World => (w'.cell? ⟨w.heap.size, 0, none⟩ = some (.slice (some ⟨b, off, none⟩) n c) ∧ w'.cell? ⟨b, off + k * 4, none⟩ = some (.int .i64 s.Long) ∧ w'.cell? ⟨b, off + k * 4 + 1, none⟩ = some (.int .i64 s.Rise) ∧ w'.cell? ⟨b, off + k * 4 + 2, none⟩ = some (.int .i64 s.Area)) ∧ w'.cell? ⟨w1.heap.size + 1 + 1, 0, none⟩ = some (.int .i64 S) ∧ w'.cell? ⟨w1.heap.size + 1 + 1, 1, none⟩ = some (.int .i64 R)) (i := 10) (v := .int .i64 k) [28] 6 (by simp) (fun _ h => ⟨h.1, h.2 rfl⟩) (.inl (by decide +kernel)) SS rfl (by decide +kernel) (fun _ _ _ h => h) (Or.inl ⟨by simp [Region.wanted], fun w' hw' => by (obtain ⟨⟨s0, s1, s2, s3⟩, s4, s5⟩ := hw'; go_simp)⟩) ?_
        refine AnyMid.take (fun w' : World => (w'.cell? ⟨w.heap.size, 0, none⟩ = some (.slice (some ⟨b, off, none⟩) n c) ∧ w'.cell? ⟨b, off + k * 4, none⟩ = some (.int .i64 s.Long) ∧ w'.cell? ⟨b, off + k * 4 + 1, none⟩ = some (.int .i64 s.Rise) ∧ w'.cell? ⟨b, off + k * 4 + 2, none⟩ = some (.int .i64 s.Area)) ∧ w'.cell? ⟨w1.heap.size + 1 + 1, 0, none⟩ = some (.int .i64 S) ∧ w'.cell? ⟨w1.heap.size + 1 + 1, 1, none⟩ = some (.int .i64 R)) (i := 11) (v := .pointer (some ⟨b, off + k * 4, none⟩)) [28] 6 (by simp) (fun _ h => ⟨h.1, h.2 rfl⟩) (.inl (by decide +kernel)) SS rfl (by decide +kernel) (fun _ _ _ h => h) (Or.inl ⟨by simp [Region.wanted], fun w' hw' => by (obtain ⟨⟨s0, s1, s2, s3⟩, s4, s5⟩ := hw'; go_simp)⟩) ?_
        refine AnyMid.take (fun w' : World => (w'.cell? ⟨w.heap.size, 0, none⟩ = some (.slice (some ⟨b, off, none⟩) n c) ∧ w'.cell? ⟨b, off + k * 4, none⟩ = some (.int .i64 s.Long) ∧ w'.cell? ⟨b, off + k * 4 + 1, none⟩ = some (.int .i64 s.Rise) ∧ w'.cell? ⟨b, off + k * 4 + 2, none⟩ = some (.int .i64 s.Area)) ∧ w'.cell? ⟨w1.heap.size + 1 + 1, 0, none⟩ = some (.int .i64 S) ∧ w'.cell? ⟨w1.heap.size + 1 + 1, 1, none⟩ = some (.int .i64 R)) (i := 12) (v := .pointer (some ⟨b, off + k * 4 + 2, none⟩)) [28] 6 (by simp) (fun _ h => ⟨h.1, h.2 rfl⟩) (.inl (by decide +kernel)) SS rfl (by decide +kernel) (fun _ _ _ h => h) (Or.inl ⟨by simp [Region.wanted], fun w' hw' => by (obtain ⟨⟨s0, s1, s2, s3⟩, s4, s5⟩ := hw'; go_simp)⟩) ?_
        refine AnyMid.take (fun w' : World => (w'.cell? ⟨w.heap.size, 0, none⟩ = some (.slice (some ⟨b, off, none⟩) n c) ∧ w'.cell? ⟨b, off + k * 4, none⟩ = some (.int .i64 s.Long) ∧ w'.cell? ⟨b, off + k * 4 + 1, none⟩ = some (.int .i64 s.Rise) ∧ w'.cell? ⟨b, off + k * 4 + 2, none⟩ = some (.int .i64 s.Area)) ∧ w'.cell? ⟨w1.heap.size + 1 + 1, 0, none⟩ = some (.int .i64 S) ∧ w'.cell? ⟨w1.heap.size + 1 + 1, 1, none⟩ = some (.int .i64 R)) (i := 13) (v := .int .i64 s.Area) [28] 6 (by simp) (fun _ h => ⟨h.1, h.2 rfl⟩) (.inl (by decide +kernel)) SS rfl (by decide +kernel) (fun _ _ _ h => h) (Or.inl ⟨by simp [Region.wanted], fun w' hw' => by (obtain ⟨⟨s0, s1, s2, s3⟩, s4, s5⟩ := hw'; go_simp)⟩) ?_
        refine AnyMid.take (fun w' : World => (w'.cell? ⟨w.heap.size, 0, none⟩ = some (.slice (some ⟨b, off, none⟩) n c) ∧ w'.cell? ⟨b, off + k * 4, none⟩ = some (.int .i64 s.Long) ∧ w'.cell? ⟨b, off + k * 4 + 1, none⟩ = some (.int .i64 s.Rise) ∧ w'.cell? ⟨b, off + k * 4 + 2, none⟩ = some (.int .i64 s.Area)) ∧ w'.cell? ⟨w1.heap.size + 1 + 1, 0, none⟩ = some (.int .i64 S) ∧ w'.cell? ⟨w1.heap.size + 1 + 1, 1, none⟩ = some (.int .i64 R)) (i := 14) (v := .int .i64 z) [28] 6 (by simp) (fun _ h => ⟨h.1, h.2 rfl⟩) (.inl (by decide +kernel)) SS rfl (by decide +kernel) (fun _ _ _ h => h) (Or.inl ⟨by simp [Region.wanted], fun w' hw' => by (obtain ⟨⟨s0, s1, s2, s3⟩, s4, s5⟩ := hw'; go_simp)⟩) ?_
        refine AnyMid.take (fun w' : World => (w'.cell? ⟨w.heap.size, 0, none⟩ = some (.slice (some ⟨b, off, none⟩) n c) ∧ w'.cell? ⟨b, off + k * 4, none⟩ = some (.int .i64 s.Long) ∧ w'.cell? ⟨b, off + k * 4 + 1, none⟩ = some (.int .i64 s.Rise) ∧ w'.cell? ⟨b, off + k * 4 + 2, none⟩ = some (.int .i64 s.Area)) ∧ w'.cell? ⟨w1.heap.size + 1 + 1, 0, none⟩ = some (.int .i64 S) ∧ w'.cell? ⟨w1.heap.size + 1 + 1, 1, none⟩ = some (.int .i64 R)) (i := 15) (v := .int .i64 (S + z)) [28] 6 (by simp) (fun _ h => ⟨h.1, h.2 rfl⟩) (.inl (by decide +kernel)) SS rfl (by decide +kernel) (fun _ _ _ h => h) (Or.inl ⟨by simp [Region.wanted], fun w' hw' => by (obtain ⟨⟨s0, s1, s2, s3⟩, s4, s5⟩ := hw'; go_simp)⟩) ?_
        refine AnyMid.take (fun w' : World => (w'.cell? ⟨w.heap.size, 0, none⟩ = some (.slice (some ⟨b, off, none⟩) n c) ∧ w'.cell? ⟨b, off + k * 4, none⟩ = some (.int .i64 s.Long) ∧ w'.cell? ⟨b, off + k * 4 + 1, none⟩ = some (.int .i64 s.Rise) ∧ w'.cell? ⟨b, off + k * 4 + 2, none⟩ = some (.int .i64 s.Area)) ∧ w'.cell? ⟨w1.heap.size + 1 + 1, 0, none⟩ = some (.int .i64 S) ∧ w'.cell? ⟨w1.heap.size + 1 + 1, 1, none⟩ = some (.int .i64 R)) (i := 16) (v := .pointer (some ⟨w1.heap.size + 1 + 1, 1, none⟩)) [28] 6 (by simp) (fun _ h => ⟨h.1, h.2 rfl⟩) (.inl (by decide +kernel)) SS rfl (by decide +kernel) (fun _ _ _ h => h) (Or.inl ⟨by simp [Region.wanted], fun w' hw' => by (obtain ⟨⟨s0, s1, s2, s3⟩, s4, s5⟩ := hw'; go_simp)⟩) ?_
        refine AnyMid.take (fun w' : World => (w'.cell? ⟨w.heap.size, 0, none⟩ = some (.slice (some ⟨b, off, none⟩) n c) ∧ w'.cell? ⟨b, off + k * 4, none⟩ = some (.int .i64 s.Long) ∧ w'.cell? ⟨b, off + k * 4 + 1, none⟩ = some (.int .i64 s.Rise) ∧ w'.cell? ⟨b, off + k * 4 + 2, none⟩ = some (.int .i64 s.Area)) ∧ w'.cell? ⟨w1.heap.size + 1 + 1, 0, none⟩ = some (.int .i64 S) ∧ w'.cell? ⟨w1.heap.size + 1 + 1, 1, none⟩ = some (.int .i64 R)) (i := 17) (v := .int .i64 R) [28] 6 (by simp) (fun _ h => ⟨h.1, h.2 rfl⟩) (.inl (by decide +kernel)) SS rfl (by decide +kernel) (fun _ _ _ h => h) (Or.inl ⟨by simp [Region.wanted], fun w' hw' => by (obtain ⟨⟨s0, s1, s2, s3⟩, s4, s5⟩ := hw'; go_simp)⟩) ?_
        refine AnyMid.take (fun w' : World => (w'.cell? ⟨w.heap.size, 0, none⟩ = some (.slice (some ⟨b, off, none⟩) n c) ∧ w'.cell? ⟨b, off + k * 4, none⟩ = some (.int .i64 s.Long) ∧ w'.cell? ⟨b, off + k * 4 + 1, none⟩ = some (.int .i64 s.Rise) ∧ w'.cell? ⟨b, off + k * 4 + 2, none⟩ = some (.int .i64 s.Area)) ∧ w'.cell? ⟨w1.heap.size + 1 + 1, 0, none⟩ = some (.int .i64 S) ∧ w'.cell? ⟨w1.heap.size + 1 + 1, 1, none⟩ = some (.int .i64 R)) (i := 25) (v := .pointer (some ⟨w1.heap.size + 1 + 1, 0, none⟩)) [28] 6 (by simp) (fun _ h => ⟨h.1, h.2 rfl⟩) (.inl (by decide +kernel)) SS rfl (by decide +kernel) (fun _ _ _ h => h) (Or.inl ⟨by simp [Region.wanted], fun w' hw' => by (obtain ⟨⟨s0, s1, s2, s3⟩, s4, s5⟩ := hw'; go_simp)⟩) ?_
        refine AnyMid.take (fun w' : World => w'.cell? ⟨w.heap.size, 0, none⟩ = some (.slice (some ⟨b, off, none⟩) n c) ∧ w'.cell? ⟨b, off + k * 4, none⟩ = some (.int .i64 s.Long) ∧ w'.cell? ⟨b, off + k * 4 + 1, none⟩ = some (.int .i64 s.Rise) ∧ w'.cell? ⟨b, off + k * 4 + 2, none⟩ = some (.int .i64 s.Area)) (i := 18) (v := .pointer (some ⟨w.heap.size, 0, none⟩)) [28] 6 (by simp) (fun _ h => h.1) (.inr fun _ h => h.1) SS rfl (by decide +kernel) (fun _ _ _ h => h) (Or.inl ⟨by simp [Region.wanted], fun w' hw' => by (obtain ⟨s0, s1, s2, s3⟩ := hw'; go_simp)⟩) ?_
        refine AnyMid.take (fun w' : World => w'.cell? ⟨w.heap.size, 0, none⟩ = some (.slice (some ⟨b, off, none⟩) n c) ∧ w'.cell? ⟨b, off + k * 4, none⟩ = some (.int .i64 s.Long) ∧ w'.cell? ⟨b, off + k * 4 + 1, none⟩ = some (.int .i64 s.Rise) ∧ w'.cell? ⟨b, off + k * 4 + 2, none⟩ = some (.int .i64 s.Area)) (i := 19) (v := .slice (some ⟨b, off, none⟩) n c) [28] 6 (by simp) (fun _ h => h.1) (.inr fun _ h => h.1) SS rfl (by decide +kernel) (fun _ _ _ h => h) (Or.inl ⟨by simp [Region.wanted], fun w' hw' => by (obtain ⟨s0, s1, s2, s3⟩ := hw'; go_simp)⟩) ?_
        refine AnyMid.take (fun w' : World => w'.cell? ⟨w.heap.size, 0, none⟩ = some (.slice (some ⟨b, off, none⟩) n c) ∧ w'.cell? ⟨b, off + k * 4, none⟩ = some (.int .i64 s.Long) ∧ w'.cell? ⟨b, off + k * 4 + 1, none⟩ = some (.int .i64 s.Rise) ∧ w'.cell? ⟨b, off + k * 4 + 2, none⟩ = some (.int .i64 s.Area)) (i := 20) (v := .int .i64 k) [28] 6 (by simp) (fun _ h => h.1) (.inr fun _ h => h.1) SS rfl (by decide +kernel) (fun _ _ _ h => h) (Or.inl ⟨by simp [Region.wanted], fun w' hw' => by (obtain ⟨s0, s1, s2, s3⟩ := hw'; go_simp)⟩) ?_
        refine AnyMid.take (fun w' : World => w'.cell? ⟨w.heap.size, 0, none⟩ = some (.slice (some ⟨b, off, none⟩) n c) ∧ w'.cell? ⟨b, off + k * 4, none⟩ = some (.int .i64 s.Long) ∧ w'.cell? ⟨b, off + k * 4 + 1, none⟩ = some (.int .i64 s.Rise) ∧ w'.cell? ⟨b, off + k * 4 + 2, none⟩ = some (.int .i64 s.Area)) (i := 21) (v := .pointer (some ⟨b, off + k * 4, none⟩)) [28] 6 (by simp) (fun _ h => h.1) (.inr fun _ h => h.1) SS rfl (by decide +kernel) (fun _ _ _ h => h) (Or.inl ⟨by simp [Region.wanted], fun w' hw' => by (obtain ⟨s0, s1, s2, s3⟩ := hw'; go_simp)⟩) ?_
        refine AnyMid.take (fun w' : World => w'.cell? ⟨w.heap.size, 0, none⟩ = some (.slice (some ⟨b, off, none⟩) n c) ∧ w'.cell? ⟨b, off + k * 4, none⟩ = some (.int .i64 s.Long) ∧ w'.cell? ⟨b, off + k * 4 + 1, none⟩ = some (.int .i64 s.Rise) ∧ w'.cell? ⟨b, off + k * 4 + 2, none⟩ = some (.int .i64 s.Area)) (i := 22) (v := .pointer (some ⟨b, off + k * 4 + 1, none⟩)) [28] 6 (by simp) (fun _ h => h.1) (.inr fun _ h => h.1) SS rfl (by decide +kernel) (fun _ _ _ h => h) (Or.inl ⟨by simp [Region.wanted], fun w' hw' => by (obtain ⟨s0, s1, s2, s3⟩ := hw'; go_simp)⟩) ?_
        refine AnyMid.take (fun w' : World => w'.cell? ⟨w.heap.size, 0, none⟩ = some (.slice (some ⟨b, off, none⟩) n c) ∧ w'.cell? ⟨b, off + k * 4, none⟩ = some (.int .i64 s.Long) ∧ w'.cell? ⟨b, off + k * 4 + 1, none⟩ = some (.int .i64 s.Rise) ∧ w'.cell? ⟨b, off + k * 4 + 2, none⟩ = some (.int .i64 s.Area)) (i := 23) (v := .int .i64 s.Rise) [28] 6 (by simp) (fun _ h => h.1) (.inr fun _ h => h.1) SS rfl (by decide +kernel) (fun _ _ _ h => h) (Or.inl ⟨by simp [Region.wanted], fun w' hw' => by (obtain ⟨s0, s1, s2, s3⟩ := hw'; go_simp)⟩) ?_
        refine AnyMid.take (fun w' : World => w'.cell? ⟨w.heap.size, 0, none⟩ = some (.slice (some ⟨b, off, none⟩) n c) ∧ w'.cell? ⟨b, off + k * 4, none⟩ = some (.int .i64 s.Long) ∧ w'.cell? ⟨b, off + k * 4 + 1, none⟩ = some (.int .i64 s.Rise) ∧ w'.cell? ⟨b, off + k * 4 + 2, none⟩ = some (.int .i64 s.Area)) (i := 24) (v := .int .i64 (R + s.Rise)) [28] 6 (by simp) (fun _ h => h.1) (.inr fun _ h => h.1) SS rfl (by decide +kernel) (fun _ _ _ h => h) (Or.inl ⟨by simp [Region.wanted], fun w' hw' => by (obtain ⟨s0, s1, s2, s3⟩ := hw'; go_simp)⟩) ?_
        clear SS
        refine AnyMid.only (i := 26) (by decide +kernel) rfl rfl (fun K hK => ?_)
        go_wp2_with fail
        have SS : (fun (f : Bool) (w' : World) => (w'.cell? ⟨w.heap.size, 0, none⟩ = some (.slice (some ⟨b, off, none⟩) n c) ∧ w'.cell? ⟨b, off + k * 4, none⟩ = some (.int .i64 s.Long) ∧ w'.cell? ⟨b, off + k * 4 + 1, none⟩ = some (.int .i64 s.Rise) ∧ w'.cell? ⟨b, off + k * 4 + 2, none⟩ = some (.int .i64 s.Area)) ∧ (f = false → w'.cell? ⟨w1.heap.size + 1 + 1, 0, none⟩ = some (.int .i64 S) ∧ w'.cell? ⟨w1.heap.size + 1 + 1, 1, none⟩ = some (.int .i64 R))) true ((wr.setCell ⟨w1.heap.size + 1 + 1, 0, none⟩ (.int .i64 (S + z))).drew) := ⟨⟨by go_simp, by go_simp, by go_simp, by go_simp⟩, fun h => (by cases h)⟩
        refine hK _ _ (fun _ => SS) ?_
        clear hK K
        refine AnyMid.only (i := 27) (by decide +kernel) rfl rfl (fun K hK => ?_)
        go_wp2_with fail
        refine hK _ _ (fun _ => SS) ?_
        clear hK K SS
        refine AnyMid.only (i := 28) (by decide +kernel) rfl rfl (fun K hK => ?_)
        go_wp2_with fail
        refine hK _ _ (fun h => (by cases h)) ?_
        clear hK K
        refine AnyMid.done (by decide +kernel) ?_
        go_wp2_with fail
        go_meet
        exact rfl
      case rest =>
        clear q0 d0 d1 d2 e0 e1 f0 f1 hw1 hw2 hw3 hkb
        have hW2 := hcut.out
        have OWN2 := Lib.hid (show wc.ownsRow w1.heap.size 55 2 v (k + 1) ((heightKnots l k).flatMap knotC) by rw [← hW2]; exact own_set (p := ⟨w1.heap.size + 1 + 1, 1, none⟩) (own_set (p := ⟨w1.heap.size + 1 + 1, 0, none⟩) hown.out hne.out _) hne.out _)
        have C1 := Lib.hid (show Box wc (w1.heap.size + 1) 49 #[v] by rw [← hW2]; exact ((hbx.out.1.far (by simp) _).far (by simp) _).drew)
        have C2 := Lib.hid (show Box wc (w1.heap.size + 1 + 1) 55 #[.int .i64 (S + z), .int .i64 (R + s.Rise)] by rw [← hW2]; have := ((hbx.out.2.1.set_ 0 (.int .i64 (S + z))).set_ 1 (.int .i64 (R + s.Rise))).drew; simpa using this)
        have CH := Lib.hid (show Box wc w.heap.size 25 #[.slice (some ⟨b, off, none⟩) n c] by rw [← hW2]; exact ((hbx.out.2.2.1.far (by simp; omega) _).far (by simp; omega) _).drew)
        have CR := Lib.hid (show Box wc (w.heap.size + 1) 49 #[.slice none 0 0] by rw [← hW2]; exact ((hbx.out.2.2.2.far (by simp; omega) _).far (by simp; omega) _).drew)
        have HB2 := Lib.hid (show Below w.heap.size w wc by rw [← hW2]; exact ((BW.out.setCell (p := ⟨w1.heap.size + 1 + 1, 0, none⟩) (by simp; omega) _).setCell (p := ⟨w1.heap.size + 1 + 1, 1, none⟩) (by simp; omega) _).drew)
        have HS2 := Lib.hid (show w1.heap.size + 1 + 1 + 1 ≤ wc.heap.size by rw [← hW2]; simpa using hsz.out)
        have HW2 := Lib.hid hW2
        have g0 := C1.out.cell 0
        have g1 := C2.out.cell 0
        have g2 := C2.out.cell 1
        simp only [List.getElem?_toArray, List.getElem?_cons_zero, List.getElem?_cons_succ] at g0 g1 g2
        have l1 := C1.out.lt
        have l2 := C2.out.lt
        clear hW2 HW2 hcut hown hbx
        go_wp2_with (at_builtin; refine wpList_append_own _ rfl _ _ 47 rfl w1.heap.size 55 i0 (.agg #[.int .i64 0, .int .i64 0]) 2 16 Try.underlying47 hi0 hz0 hz1 hz2 rfl (by decide) v (k + 1) ((heightKnots l k).flatMap knotC) rfl (OWN2.out.alloc _) ⟨wc.heap.size, 0, none⟩ 1 1 (knotC ⟨S + z, R + s.Rise⟩) rfl rfl ?_ ?_ ?_ ?_ ?_ ?_)
        · exact cells_new wc (knotC ⟨S + z, R + s.Rise⟩) 55
        · simp [knotC, Value.oneCell']
        · unfold maxLen; omega
        · omega
        · have := HS2.out; simp; omega
        intro v' w7 hown7 hg7 _
        obtain ⟨A7, cap7, rfl, _, hA7⟩ := own_form hown7
        obtain ⟨g7, rfl, hg7b, hg7lt, hrest⟩ := hA7 (by omega)
        clear hrest hA7
        have E1 := (C1.out.alloc (.cells #[.int .i64 (S + z), .int .i64 (R + s.Rise)] 55)).grownRow hg7 (own_box (OWN2.out.alloc (.cells #[.int .i64 (S + z), .int .i64 (R + s.Rise)] 55)) (C1.out.alloc (.cells #[.int .i64 (S + z), .int .i64 (R + s.Rise)] 55)) (by decide))
        have NX := refHeight_next (w := w) (M := w1.heap.size) hlt hkk.out OWN2.out hne.out C1.out C2.out CH.out CR.out HB2.out hown7 hg7
        have HNX := Lib.hid NX
        have HE1 := Lib.hid E1
        have hs7 := hg7.size
        have HS7 := Lib.hid (show w1.heap.size + 1 + 1 + 1 ≤ w7.heap.size by have := HS2.out; simp at hs7; omega)
        have g3 := E1.cell 0
        have g4 := E1.frozen 0
        simp only [List.getElem?_toArray, List.getElem?_cons_zero] at g3
        clear NX E1 hown7 hg7 hs7 g0 g1 g2 hg7b hg7lt
        go_wp2_with fail
        go_roundw
        case rel => exact ⟨k + 1, .slice (some ⟨g7, 0, none⟩) (k + 1 + 1) cap7, hlt', by go_num, HNX.out.1, HNX.out.2.1, (by unfold Hid; rw [HS1.out, HR1.out, hst.out, hsr.out]; exact HNX.out.2.2.1), HNX.out.2.2.2, (by unfold Hid; simpa using HS7.out)⟩
        case measure => simp [intOf]; omega
    · obtain rfl : k = n := by omega
      have t0 : decide (k < k) = false := decide_eq_false hlt'
      have g0 := hbx.out.1.cell 0
      have g1 := hbx.out.2.2.2.cell 0
      have g2 := hbx.out.2.2.2.frozen 0
      simp only [List.getElem?_toArray, List.getElem?_cons_zero] at g0 g1
      have hkn := own_far (p := ⟨w.heap.size + 1, 0, none⟩) hown.out (by simpa using hlt) v
      obtain ⟨A', c', rfl, _, _⟩ := own_form hkn
      have HKN := Lib.hid hkn
      clear hkn
      go_wp2_with fail
      have e0 := hbx.out.2.2.2.set_ 0 (.slice A' (k + 1) c')
      refine bodyPost_ret (results_cell1 rfl _ _ _ (w.heap.size + 1) (.agg #[.slice A' (k + 1) c']) rfl (load_line (t := 49) (by simpa using e0))) rfl ?_
      refine ⟨⟨_, rfl, A', c', by rw [hh.out, HLEN.out], ?_⟩, BW.out.setCell (p := ⟨w.heap.size + 1, 0, none⟩) (by simp) _⟩
      rw [hh.out]
      have hx := HKN.out
      exact Knots.own_slice (base := w1.heap.size) (e := 55) (c := c') (by rw [HLEN.out]; exact hx)

end Go.Proofs.Ytkommjjpaklenaa
