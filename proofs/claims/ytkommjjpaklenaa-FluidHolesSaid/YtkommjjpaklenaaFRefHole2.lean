/- Walks of the reference of layer 3: the height line of a hole; in which segment a place is. -/
import Derived.Test.YtkommjjpaklenaaFRefHole
import Derived.Test.YtkommjjpaklenaaFWhere
import Derived.BigRegion
namespace Mpl
theorem passed_le (l : List Seg) (u : Int) (k m : Nat) : k ≤ passed l u k m ∧ passed l u k m ≤ k + m := by
  induction m generalizing k with
  | zero => simp [passed]
  | succ m ih =>
    rw [passed]
    split
    · omega
    · have := ih (k + 1); omega
theorem volume_good {l : List Seg} (h : GoodHole l) : volumeOf l = sizeUp l l.length := by unfold volumeOf; rw [if_pos ((checkHole_iff l).2 h)]
end Mpl
namespace Go.Proofs.Ytkommjjpaklenaa
open Go.RowKit Go.Shelf Mpl

theorem ref_hole_bad {l : List Seg} {u : Int} (h : inHole l u = false) : whereOf l u = -1 := by unfold whereOf; rw [h]; rfl

set_option maxHeartbeats 4000000 in
set_option maxRecDepth 100000 in
theorem ref03_Where (v0 : Value) (l : List Seg) (u : Int) (w : World) (hv : HoleV w w.heap.size v0 l) :
    Calls Try.prog 32 #[v0, .int .i64 u] w fun e w' => e = .returned (.int .i64 (whereOf l u)) ∧ Below w.heap.size w w' := by
  have hvv := hv
  obtain ⟨A, c, rfl, hS⟩ := hv
  have HA := hvv.alloc (.cells #[.slice A l.length c] 25)
  have HC := Lib.hid (ref03_CheckHole _ l _ HA)
  have hba : Below w.heap.size w (w.alloc (.cells #[.slice A l.length c] 25)) := (Below.refl _ _).alloc (Nat.le_refl _) _
  have b0 : Box (w.alloc (.cells #[.slice A l.length c] 25)) w.heap.size 25 #[.slice A l.length c] := Box.new _ _ _ rfl
  have HB := Lib.hid b0
  have HBA := Lib.hid hba
  have HV := Lib.hid (fun w' (hb : Below (w.alloc (.cells #[.slice A l.length c] 25)).heap.size (w.alloc (.cells #[.slice A l.length c] 25)) w') => ref03_Volume _ l w' (HA.below hb))
  have hbad := Lib.hid (fun h => ref_hole_bad (l := l) (u := u) h)
  have hi := Lib.hid (checkHole_iff l)
  have hdi : Hid (inHole l u = (decide (checkHole l = 0) && within u 0 (sizeUp l l.length))) := rfl
  have hwd : Hid (whereOf l u = if inHole l u then (passed l u 0 l.length : Int) - 1 else -1) := rfl
  clear hvv HA hba b0
  generalize whereOf l u = res at *
  by_cases h0 : checkHole l = 0
  case neg =>
    have hr := Lib.hid (hbad.out (by rw [hdi.out, decide_eq_false h0]; rfl))
    have hz : (checkHole l != 0) = true := by simpa using h0
    clear h0 hS hbad hdi hwd
    generalize checkHole l = ch at *
    generalize l.length = n at *
    go_enter Try.func32, Try.ntmps32
    go_wp2_with fail
    refine HC.out.mono ?_
    rintro e w1 ⟨rfl, hb1⟩
    go_wp2_with fail
    go_ret
    exact ⟨ret_int hr.out.symm, HBA.out.trans (hb1.mono HBA.out.size)⟩
  have hg := hi.out.1 h0
  have HG := Lib.hid hg
  have hvol := volume_good hg
  rw [hvol] at HV
  rw [h0] at HC
  by_cases hu0 : 0 ≤ u
  case neg =>
    have hr := Lib.hid (hbad.out (by rw [hdi.out]; simp [within, hu0]))
    have hz : decide (u < 0) = true := decide_eq_true (by omega)
    clear h0 hS hbad hdi hwd hi hvol hg
    generalize l.length = n at *
    go_enter Try.func32, Try.ntmps32
    go_wp2_with fail
    refine HC.out.mono ?_
    rintro e w1 ⟨rfl, hb1⟩
    go_wp2_with fail
    go_ret
    exact ⟨ret_int hr.out.symm, HBA.out.trans (hb1.mono HBA.out.size)⟩
  have hz0 : decide (u < 0) = false := decide_eq_false (by omega)
  obtain ⟨b, off, rfl, hb, hc⟩ := hS hg.pos
  have HCC := Lib.hid hc
  have hfew := hg.few
  have hpos := hg.pos
  clear hS hc
  by_cases hu1 : u ≤ sizeUp l l.length
  case neg =>
    have hr := Lib.hid (hbad.out (by rw [hdi.out]; simp [within, hu1]))
    have hz : decide (sizeUp l l.length < u) = true := decide_eq_true (by omega)
    clear h0 hbad hdi hwd hi hvol hg
    generalize sizeUp l l.length = V at *
    generalize l.length = n at *
    go_enter Try.func32, Try.ntmps32
    go_wp2_with fail
    refine HC.out.mono ?_
    rintro e w1 ⟨rfl, hb1⟩
    have BX1 := Lib.hid (HB.out.under hb1)
    have q0 := hole_box BX1.out
    have HB1 := Lib.hid hb1
    clear hb1
    go_wp2_with fail
    refine (HV.out _ HB1.out).mono ?_
    rintro e w2 ⟨rfl, hb2⟩
    go_wp2_with fail
    go_ret
    have h1 := HBA.out.trans (HB1.out.mono HBA.out.size)
    exact ⟨ret_int hr.out.symm, h1.trans (hb2.mono h1.size)⟩
  have hz : decide (sizeUp l l.length < u) = false := decide_eq_false (by omega)
  have hin : inHole l u = true := by rw [hdi.out, decide_eq_true h0]; simp [within]; omega
  have hres : Hid (res = (passed l u 0 l.length : Int) - 1) := by unfold Hid; rw [hwd.out, hin]; rfl
  -- the answer, from segment k on
  have HSTOP := Lib.hid (fun (k : Nat) (hk : k < l.length) (h1 : passed l u k (l.length - k) = passed l u 0 l.length) (h2 : sizeUp l k ≤ u) (h3 : u < sizeUp l (k + 1)) => (by
    rw [hres.out, ← h1, show l.length - k = (l.length - (k + 1)) + 1 by omega, passed_go l u k _ (by omega), passed_stop l u (k + 1) _ h3]; omega : res = (k : Int)))
  have HNEXT := Lib.hid (fun (k : Nat) (hk : k < l.length) (h1 : passed l u k (l.length - k) = passed l u 0 l.length) (h2 : sizeUp l k ≤ u) => (by
    rw [← h1, show l.length - k = (l.length - (k + 1)) + 1 by omega, passed_go l u k _ (by omega)] : passed l u (k + 1) (l.length - (k + 1)) = passed l u 0 l.length))
  have HEND := Lib.hid (fun (h1 : passed l u l.length (l.length - l.length) = passed l u 0 l.length) => (by
    rw [hres.out, ← h1, Nat.sub_self]; rfl : res = (l.length : Int) - 1))
  clear h0 hbad hdi hwd hi hvol hg hin hres
  generalize hn : l.length = n at *
  have HN := Lib.hid hn
  clear hn
  go_enter Try.func32, Try.ntmps32
  go_wp2_with fail
  refine HC.out.mono ?_
  rintro e w1 ⟨rfl, hb1⟩
  have BX1 := Lib.hid (HB.out.under hb1)
  have q0 := hole_box BX1.out
  have HB1 := Lib.hid hb1
  clear hb1
  go_wp2_with fail
  refine (HV.out _ HB1.out).mono ?_
  rintro e w2 ⟨rfl, hb2⟩
  have BX2 := Lib.hid (BX1.out.under hb2)
  have h1 := HBA.out.trans (HB1.out.mono HBA.out.size)
  have HB2 := Lib.hid (h1.trans (hb2.mono h1.size))
  clear hb2 h1 q0 HB1
  go_wp2_with fail
  go_loopw [5, 6] (fun s5 s6 wr => ∃ (k : Nat), k ≤ n ∧ s6 = .int .i64 k ∧ s5 = .int .i64 (sizeUp l k) ∧ Hid (sizeUp l k ≤ u) ∧ Hid (passed l u k (n - k) = passed l u 0 n) ∧ Hid (Box wr w.heap.size 25 #[.slice (some ⟨b, off, none⟩) n c]) ∧ Hid (Below w.heap.size w wr)) (fun _ s6 _ => n - (intOf s6).toNat)
  case atStart => exact ⟨0, Nat.zero_le _, rfl, rfl, (by unfold Hid; simp [sizeUp, sumFrom]; exact hu0), rfl, BX2, HB2⟩
  case round =>
    obtain ⟨k, hk, rfl, rfl, hnl, hps, BX, BW⟩ := hrel
    have hsz := BW.out.size
    have q0 := hole_box BX.out
    by_cases hlt : k < n
    · obtain ⟨c0, c1, c2, c3⟩ := HCC.out k hlt
      have t0 : decide (k < n) = true := decide_eq_true hlt
      have d0 := oldCell BW.out hb c0
      have d2 := oldCell BW.out hb c2
      have hbw : b < wr.heap.size := by omega
      have hst := Lib.hid (sizeUp_step l k)
      have hu := HG.out.ups k (by rw [HN.out]; omega)
      obtain ⟨_, _, _, _, u5, u6⟩ := hu
      have hs2 := HG.out.seg (k := k) (by rw [HN.out]; exact hlt)
      obtain ⟨_, z1, z2⟩ := hs2
      have hse : Hid (segSize (sg l k) = (sg l k).Long * (sg l k).Area) := rfl
      have ST := Lib.hid (HSTOP.out k hlt hps.out hnl.out)
      have NX := Lib.hid (HNEXT.out k hlt hps.out hnl.out)
      rw [hst.out] at ST
      clear c0 c1 c2 c3
      generalize hSk : sizeUp l k = S at *
      generalize hS1 : sizeUp l (k + 1) = S1 at *
      have HS1 := Lib.hid hS1
      clear hSk hS1
      generalize segSize (sg l k) = z at *
      generalize sg l k = s at *
      have hw1 : IntKind.i64.wrap (s.Long * s.Area) = z := by rw [← hse.out]; exact IntWalk.i64_in _ (by omega)
      have hw2 : IntKind.i64.wrap (S + z) = S + z := IntWalk.i64_in _ (by omega)
      have b1 : (k : Int) < (n : Int) := by omega
      have b2 : (0 : Int) ≤ (k : Int) := by omega
      by_cases hgo : u < S + z
      · have t1 : decide (u < S + z) = true := decide_eq_true hgo
        have hr := Lib.hid (ST.out hgo)
        go_wp2_with fail
        go_quiet (fail)
        go_wp2_with fail
        go_ret
        exact ⟨ret_int hr.out.symm, belowDrewN BW.out _⟩
      · have t1 : decide (u < S + z) = false := decide_eq_false hgo
        have hng : Hid (sizeUp l (k + 1) ≤ u) := by unfold Hid; rw [HS1.out, hst.out]; omega
        clear hgo
        go_wp2_with fail
        go_quiet (fail)
        go_wp2_with fail
        go_roundw
        case rel => exact ⟨k + 1, hlt, by go_num, by rw [HS1.out, hst.out], hng, NX, BX.out.drewN _, belowDrewN BW.out _⟩
        case measure => simp [intOf]; omega
    · obtain rfl : k = n := by omega
      have t0 : decide (k < k) = false := decide_eq_false hlt
      have hr := Lib.hid (HEND.out hps.out)
      go_wp2_with fail
      go_ret
      exact ⟨ret_int hr.out.symm, BW.out⟩

end Go.Proofs.Ytkommjjpaklenaa
