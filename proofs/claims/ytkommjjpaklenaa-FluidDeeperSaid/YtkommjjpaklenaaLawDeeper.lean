/- The law FluidDeeper, walked. -/
import Derived.Test.YtkommjjpaklenaaFGood
import Derived.Test.YtkommjjpaklenaaFOpen
namespace Go.Proofs.Ytkommjjpaklenaa
open Go.RowKit Go.Shelf Mpl

set_option maxHeartbeats 8000000 in
set_option maxRecDepth 100000 in
theorem walk_FluidDeeper (l : List Int) (A : Option Addr) (c : Nat) (l2 : List Int) (A2 : Option Addr) (c2 : Nat) (u0 down0 top0 more0 : Int) (w : World) (hl : Ints w w.heap.size A l) (hlin : IntsIn l) (hc : l.length ≤ c) (hm : c ≤ maxLen)
    (hl2 : Ints w w.heap.size A2 l2) (hlin2 : IntsIn l2) (hc2 : l2.length ≤ c2) (hm2 : c2 ≤ maxLen) (h1 : inI64 u0) (h2 : inI64 down0) (h3 : inI64 top0) (h4 : inI64 more0) :
    Calls Try.prog 4 #[.slice A l.length c, .slice A2 l2.length c2, .int .i64 u0, .int .i64 down0, .int .i64 top0, .int .i64 more0] w fun e w' => e = .returned (.bool true) ∧ Below w.heap.size w w' := by
  have HAN := Lib.hid (kit_Annulus l A c w hl hlin (by omega))
  have HKC := Lib.hid (fun h v0 W (hW : Below w.heap.size w W) hv hg => kit_Column h v0 l2 A2 c2 W hv hg (hl2.up hW hW.size) hlin2 (by omega))
  have K1 := Lib.hid (fun V w (hV : 0 < V) (hV2 : V ≤ 5242880000) => kit_Mod64 u0 V w h1 hV (by omega))
  have K2 := Lib.hid (fun V w (hV : 0 < V) (hV2 : V ≤ 5242880001) => kit_Mod64 down0 V w h2 hV (by omega))
  have K3 := Lib.hid (fun w => kit_Mod64 top0 17179869184 w h3 (by omega) (by omega))
  have K4 := Lib.hid (fun w => kit_Mod64 more0 17179869184 w h4 (by omega) (by omega))
  have r3 : 0 ≤ top0 % 17179869184 ∧ top0 % 17179869184 < 17179869184 := by omega
  have r4 : 0 ≤ more0 % 17179869184 ∧ more0 % 17179869184 < 17179869184 := by omega
  clear hl hlin hl2 hlin2 h1 h2 h3 h4
  generalize l.length = nl at *
  generalize l2.length = nl2 at *
  generalize top0 % 17179869184 = top at *
  generalize more0 % 17179869184 = more at *
  obtain ⟨r30, r31⟩ := r3
  obtain ⟨r40, r41⟩ := r4
  go_enter Try.func4, Try.ntmps4
  go_wp2_with fail
  refine HAN.out.mono ?_
  rintro e w1 ⟨⟨A', c', h, rfl, hown, hann⟩, hb1⟩
  have GH := Lib.hid hann.good
  have HV1 := Lib.hid ((own_hole hown).alloc (.cells #[.slice A' h.length c'] 25))
  have hbx : Box (w1.alloc (.cells #[.slice A' h.length c'] 25)) w1.heap.size 25 #[.slice A' h.length c'] := Box.new _ _ _ rfl
  have BX1 := Lib.hid hbx
  have W1 := Lib.hid (hb1.alloc hb1.size (.cells #[.slice A' h.length c'] 25))
  have hV := (hann.good.ups h.length (Nat.le_refl _)).2.2.2.2.2
  have hV1 := hann.one_le
  have hfew := hann.few
  clear hown hann hb1 hbx
  have HK := Lib.hid (HKC.out h _ _ W1.out HV1.out GH.out)
  clear HKC HAN
  go_wp2_with fail
  refine HK.out.mono ?_
  rintro e w2 ⟨⟨A3, c3, ls, rfl, hown2, hcol⟩, hb2⟩
  have GC := Lib.hid (hcol.good GH.out)
  have HS2 := Lib.hid (own_slugs hown2)
  have HCAP := Lib.hid (own_cap hown2)
  have HV2 := Lib.hid (HV1.out.below hb2)
  have X2 := Lib.hid (BX1.out.under hb2)
  have W2 := Lib.hid (W1.out.trans (hb2.mono W1.out.size))
  have hn0 := hcol.pos
  have hn6 := hcol.few
  have HH := Lib.hid (fun w (hw : Slugs w w.heap.size A3 ls) => kit_Held ls A3 c3 w hw (by omega) (fun k hk => by have := heldUp_mono GC.out hk; omega))
  have hfull : heldUp ls ls.length = sizeUp h h.length := GC.out.full
  rw [hfull] at HH
  have HUM := Lib.hid (fun k (hk : k ≤ ls.length) => heldUp_mono GC.out hk)
  have HDP := Lib.hid (fun (u low : Int) i (hi : i < ls.length) a1 a2 a3 => deeper GC.out top u low (i := i) hi a1 a2 a3)
  have HPR := Lib.hid (fun t u W (hW : Below w2.heap.size w2 W) t0 t1 u0 u1 => good_Press GC.out t u (HV2.out.below hW) (HS2.out.below hW) HCAP.out t0 t1 u0 u1)
  have HLE := Lib.hid (fun u => pressAt_le GC.out top u r30 (by omega))
  have HBD := Lib.hid (fun u => pressAt_bound GC.out (u := u) r30 (by omega))
  have HSH := Lib.hid (fun u => pressAt_shift h ls top more u)
  have HST := Lib.hid (fun k => heldUp_step ls k)
  have HFU := Lib.hid hfull
  clear hown2 hcol hb2 HK BX1 HV1 W1 hfull GH HCAP HV2
  obtain ⟨sb, so, rfl, hsb, hsc⟩ := HS2.out hn0
  have HSC := Lib.hid hsc
  clear hsc
  generalize hV' : sizeUp h h.length = V at *
  generalize hn : ls.length = n at *
  have HN := Lib.hid hn
  have q0 := hole_box X2.out
  clear hn hV'
  have KU := Lib.hid (fun w => K1.out V w (by omega) (by omega))
  have hu0 := Int.emod_nonneg u0 (show V ≠ 0 by omega)
  have hu1 := Int.emod_lt_of_pos u0 (show 0 < V by omega)
  generalize u0 % V = u at *
  clear K1
  generalize h.length = nh at *
  have HF := Lib.hid (HH.out w2 HS2.out)
  clear HH
  go_wp2_with (first | (go_at_call 23; (with_reducible refine HF.out.mono ?_); rintro e w' ⟨rfl, rfl⟩) | (go_at_call 20; (first | (with_reducible refine (KU.out _).mono ?_) | (with_reducible refine (K3.out _).mono ?_) | (with_reducible refine (K4.out _).mono ?_)); rintro e w' ⟨rfl, rfl⟩))
  go_loop [16, 17] (fun s16 s17 => ∃ k : Nat, k ≤ n ∧ s17 = .int .i64 k ∧ s16 = .int .i64 (heldUp ls k) ∧ Hid (heldUp ls k ≤ u)) (fun _ s17 => n - (intOf s17).toNat)
  case atStart => exact ⟨0, Nat.zero_le _, rfl, rfl, by unfold Hid; exact hu0⟩
  case round =>
    obtain ⟨k, hk, rfl, rfl, hle⟩ := hrel
    have hlt : k < n := by
      rcases Nat.lt_or_ge k n with h | h
      · exact h
      · have h1 : k = n := by omega
        have h2 := hle.out
        rw [h1, HFU.out] at h2
        omega
    obtain ⟨c0, c1⟩ := HSC.out k hlt
    have t0 : decide (k < n) = true := decide_eq_true hlt
    have b1 : (k : Int) < (n : Int) := by omega
    obtain ⟨p0, p1⟩ := HUM.out k (by omega)
    have hq := HUM.out (k + 1) (by omega)
    have hst := HST.out k
    rw [hst] at hq
    obtain ⟨p2, p3⟩ := hq
    have HQ := Lib.hid hst
    have hle' := hle.out
    by_cases hgo : heldUp ls k + (slg ls k).Volume ≤ u
    · have t1 : decide (heldUp ls k + (slg ls k).Volume ≤ u) = true := decide_eq_true hgo
      have hn1 : Hid (heldUp ls (k + 1) ≤ u) := by unfold Hid; rw [HQ.out]; exact hgo
      clear hst
      generalize heldUp ls k = S at *
      generalize (slg ls k).Volume = z at *
      go_wp2_with fail
      go_round
      case rel => exact ⟨k + 1, hlt, by go_num, by rw [HQ.out], hn1⟩
      case measure => simp [intOf]; omega
    · have t1 : decide (heldUp ls k + (slg ls k).Volume ≤ u) = false := decide_eq_false hgo
      have KD := Lib.hid (fun w => K2.out (u - heldUp ls k + 1) w (by omega) (by omega))
      have hd0 := Int.emod_nonneg down0 (show u - heldUp ls k + 1 ≠ 0 by omega)
      have hd1 := Int.emod_lt_of_pos down0 (show 0 < u - heldUp ls k + 1 by omega)
      have DP := HDP.out u (heldUp ls k + down0 % (u - heldUp ls k + 1)) k hlt (by omega) (by omega) (by rw [HQ.out]; omega)
      have hlow : Hid (0 ≤ heldUp ls k + down0 % (u - heldUp ls k + 1) ∧ heldUp ls k + down0 % (u - heldUp ls k + 1) ≤ V) := by unfold Hid; omega
      clear hst HQ hgo hle'
      generalize hS : heldUp ls k = S at *
      generalize (slg ls k).Volume = z at *
      generalize down0 % (u - S + 1) = dd at *
      clear hS
      have P1 := Lib.hid (fun W hW => HPR.out top u W hW r30 (by omega) hu0 (by omega))
      have P2 := Lib.hid (fun W hW => HPR.out top (S + dd) W hW r30 (by omega) hlow.out.1 hlow.out.2)
      have P3 := Lib.hid (fun W hW => HPR.out (top + more) u W hW (by omega) (by omega) hu0 (by omega))
      have le1 := HLE.out u
      obtain ⟨bd1, bd2⟩ := HBD.out u
      obtain ⟨bd3, bd4⟩ := HBD.out (S + dd)
      have le2 := HLE.out (S + dd)
      rw [HSH.out u] at P3
      obtain ⟨dp1, dp2⟩ := DP
      clear HPR HLE HBD HSH HDP
      generalize (pressAt h ls top u).Lo = al at *
      generalize (pressAt h ls top u).Hi = ah at *
      generalize (pressAt h ls top (S + dd)).Lo = bl at *
      generalize (pressAt h ls top (S + dd)).Hi = bh at *
      have y1 : decide (al ≤ bl) = true := decide_eq_true dp1
      have y2 : decide (ah ≤ bh) = true := decide_eq_true dp2
      have y3 : decide (al ≤ ah) = true := decide_eq_true le1
      have y4 : (al + more - al == more) = true := beq_iff_eq.2 (by omega)
      have y5 : (ah + more - ah == more) = true := beq_iff_eq.2 (by omega)
      go_wp2_with (go_at_call 20; (with_reducible refine (KD.out _).mono ?_); rintro e w' ⟨rfl, rfl⟩)
      refine (P1.out _ (Below.refl _ _)).mono ?_
      rintro e w3 ⟨rfl, hb3⟩
      have B3 := Lib.hid (hb3.alloc hb3.size (.cells #[.int .i64 al, .int .i64 ah] 34))
      have X3 := Lib.hid (X2.out.under B3.out)
      have R3 := Lib.hid (Box.new w3 34 #[.int .i64 al, .int .i64 ah] rfl)
      have z0 := hole_box X3.out
      clear hb3 q0
      go_wp2_with fail
      refine (P2.out _ B3.out).mono ?_
      rintro e w4 ⟨rfl, hb4⟩
      have B4 := Lib.hid ((B3.out.trans (hb4.mono B3.out.size)).alloc (B3.out.trans (hb4.mono B3.out.size)).size (.cells #[.int .i64 bl, .int .i64 bh] 34))
      have X4 := Lib.hid (X2.out.under B4.out)
      have R4 := Lib.hid (Box.new w4 34 #[.int .i64 bl, .int .i64 bh] rfl)
      have R34 := Lib.hid ((R3.out.under hb4).alloc (.cells #[.int .i64 bl, .int .i64 bh] 34))
      clear hb4 z0 R3
      have z0 := hole_box X4.out
      go_wp2_with fail
      refine (P3.out _ B4.out).mono ?_
      rintro e w5 ⟨rfl, hb5⟩
      have B5 := Lib.hid ((B4.out.trans (hb5.mono B4.out.size)).alloc (B4.out.trans (hb5.mono B4.out.size)).size (.cells #[.int .i64 (al + more), .int .i64 (ah + more)] 34))
      have R5 := Lib.hid (Box.new w5 34 #[.int .i64 (al + more), .int .i64 (ah + more)] rfl)
      have R45 := Lib.hid ((R4.out.under hb5).alloc (.cells #[.int .i64 (al + more), .int .i64 (ah + more)] 34))
      have R35 := Lib.hid ((R34.out.under hb5).alloc (.cells #[.int .i64 (al + more), .int .i64 (ah + more)] 34))
      obtain ⟨a0, a1⟩ := rng_box R35.out
      obtain ⟨a2, a3⟩ := rng_box R45.out
      obtain ⟨a4, a5⟩ := rng_box R5.out
      clear hb5 z0 R4 R34
      go_wp2_with fail
      refine (law03_awake _).mono ?_
      rintro e w6 ⟨rfl, hb6⟩
      go_wp2_with fail
      go_ret
      have BF := W2.out.trans (B5.out.mono W2.out.size)
      exact ⟨rfl, BF.trans (hb6.mono BF.size)⟩

end Go.Proofs.Ytkommjjpaklenaa
