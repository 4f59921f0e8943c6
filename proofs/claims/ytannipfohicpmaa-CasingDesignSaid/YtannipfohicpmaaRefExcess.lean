/- Walks of the reference of layer 5: the excess of one line over another, in a part. -/
import Derived.Test.YtannipfohicpmaaRefLoads
import Derived.Test.YtannipfohicpmaaAppend
import Derived.Deep.RegionHeld3
namespace Go.Proofs.Ytannipfohicpmaa
open Go.RowKit Go.Shelf Mpl

theorem run_field_lo (x y : Int) (w : World) : (Instr.field 66 (.agg #[.int .i64 x, .int .i64 y]) 0).run Try.prog w = .ok (.int .i64 x) w := by kernel_rfl
theorem run_field_hi (x y : Int) (w : World) : (Instr.field 66 (.agg #[.int .i64 x, .int .i64 y]) 1).run Try.prog w = .ok (.int .i64 y) w := by kernel_rfl

set_option maxHeartbeats 8000000 in
set_option maxRecDepth 100000 in
theorem ref05_excess_walk (la lb : List Knot) (lo hi : Int) (A0 A1 : Option Addr) (c0 c1 : Nat) (w : World) (hA : Knots w w.heap.size A0 la) (hB : Knots w w.heap.size A1 lb) (h0 : okLine la = 0) (h1 : okLine lb = 0) (hlo : 0 ≤ lo) (hle : lo ≤ hi) (hhi : hi ≤ 1048576) :
    Calls Try.prog 47 #[.agg #[.slice A0 la.length c0], .agg #[.slice A1 lb.length c1], .int .i64 lo, .int .i64 hi] w fun e w' =>
      e = .returned (.int .i64 (refold (excessAt la lb) lo hi ([lo, hi] ++ la.map Knot.At ++ lb.map Knot.At) (excessAt la lb lo))) ∧ Below w.heap.size w w' := by
  have ga := (checkLine_good h0).1
  have gb := (checkLine_good h1).1
  have hna := ga.few
  have hnb := gb.few
  obtain ⟨ba, oa, rfl, hba, hca⟩ := hA.out ga.pos
  obtain ⟨bb, ob, rfl, hbb, hcb⟩ := hB.out gb.pos
  have HCA := Lib.hid hca
  have HCB := Lib.hid hcb
  have HLA := Lib.hid (fun W (hW : Below w.heap.size w W) => ref05_line _ la W ((show LineV w w.heap.size (.agg #[.slice (some ⟨ba, oa, none⟩) la.length c0]) la from ⟨_, _, rfl, hA⟩).below hW))
  have HLB := Lib.hid (fun W (hW : Below w.heap.size w W) => ref05_line _ lb W ((show LineV w w.heap.size (.agg #[.slice (some ⟨bb, ob, none⟩) lb.length c1]) lb from ⟨_, _, rfl, hB⟩).below hW))
  have HTA := Lib.hid (fun W z (hW : Below w.heap.size w W) => ref02_At la _ z W ((show LineV w w.heap.size (.agg #[.slice (some ⟨ba, oa, none⟩) la.length c0]) la from ⟨_, _, rfl, hA⟩).below hW))
  have HTB := Lib.hid (fun W z (hW : Below w.heap.size w W) => ref02_At lb _ z W ((show LineV w w.heap.size (.agg #[.slice (some ⟨bb, ob, none⟩) lb.length c1]) lb from ⟨_, _, rfl, hB⟩).below hW))
  rw [h0] at HLA
  rw [h1] at HLB
  have hra := Lib.hid (at_bounds h0)
  have hrb := Lib.hid (at_bounds h1)
  have hex : Hid (∀ z, excessAt la lb z = (At la z).Hi - (At lb z).Lo) := fun _ => rfl
  obtain ⟨i0, hi0, hz0, hz1, hz2⟩ := info_parts info_int64
  generalize hres : refold (excessAt la lb) lo hi ([lo, hi] ++ la.map Knot.At ++ lb.map Knot.At) (excessAt la lb lo) = res
  have HR := Lib.hid hres
  have HSA := Lib.hid (take_map_step la)
  have HSB := Lib.hid (take_map_step lb)
  have HEA := Lib.hid (show (la.take la.length).map Knot.At = la.map Knot.At by rw [List.take_length])
  have HEB := Lib.hid (show (lb.take lb.length).map Knot.At = lb.map Knot.At by rw [List.take_length])
  have HZA := Lib.hid (show ∀ k, ((la.take k).map Knot.At).length ≤ la.length from fun k => by simp; omega)
  have HZB := Lib.hid (show ∀ k, ((lb.take k).map Knot.At).length ≤ lb.length from fun k => by simp; omega)
  have HMA := Lib.hid (show (la.map Knot.At).length = la.length by simp)
  have HMB := Lib.hid (show (lb.map Knot.At).length = lb.length by simp)
  clear hres hA hB h0 h1 ga gb hca hcb
  generalize At la = fa at *
  generalize At lb = fb at *
  generalize excessAt la lb = ex at *
  generalize la.length = na at *
  generalize lb.length = nb at *
  have d1 : decide (lo < 0) = false := decide_eq_false (by omega)
  have d2 : decide (hi < lo) = false := decide_eq_false (by omega)
  have d3 : decide (1048576 < hi) = false := decide_eq_false (by omega)
  obtain ⟨w0, hw0⟩ : ∃ w0, ((w.alloc (.cells #[.slice (some ⟨ba, oa, none⟩) na c0] 24)).alloc (.cells #[.slice (some ⟨bb, ob, none⟩) nb c1] 24)) = w0 := ⟨_, rfl⟩
  have b0 : Box w0 w.heap.size 24 #[.slice (some ⟨ba, oa, none⟩) na c0] := by rw [← hw0]; exact (Box.new w _ _ rfl).alloc _
  have b1 : Box w0 (w.heap.size + 1) 24 #[.slice (some ⟨bb, ob, none⟩) nb c1] := by rw [← hw0]; exact Box.new _ _ _ (by simp)
  have hB0 : Below w.heap.size w w0 := by rw [← hw0]; exact (by repeat (first | exact Below.refl _ _ | assumption | refine Below.setCell ?_ (by first | (simp; done) | (simp; omega)) _ | refine belowDrewN ?_ _ | refine Below.drew ?_ | refine Below.alloc ?_ (by first | (simp; done) | (simp; omega)) _))
  have HW0 := Lib.hid hw0
  clear hw0
  go_enter Try.func47, Try.ntmps47
  go_wp2_with fail
  rw [HW0.out]
  refine (HLA.out _ hB0).mono ?_
  rintro e w1 ⟨rfl, hb1⟩
  have hB1 := hB0.trans (hb1.mono hB0.size)
  replace b0 := b0.under hb1
  replace b1 := b1.under hb1
  have q1 := b1.cell 0
  simp only [List.getElem?_toArray, List.getElem?_cons_zero] at q1
  clear hb1
  go_wp2_with fail
  refine (HLB.out _ hB1).mono ?_
  rintro e w2 ⟨rfl, hb2⟩
  have hB2 := hB1.trans (hb2.mono hB1.size)
  replace b0 := b0.under hb2
  replace b1 := b1.under hb2
  clear hb2 q1 HLA HLB HW0 hB0 hB1
  go_wp2_with fail
  have HB2 := Lib.hid hB2
  have Hb0 := Lib.hid b0
  have Hb1 := Lib.hid b1
  have hs2 := hB2.size
  have hl1 := b1.lt
  clear hB2 b0 b1
  go_loopw [9, 10] (fun s9 s10 wr => ∃ k : Nat, k ≤ na ∧ s10 = .int .i64 k ∧ Hid (wr.ownsRow w2.heap.size 2 1 s9 ([lo, hi] ++ (la.take k).map Knot.At).length (([lo, hi] ++ (la.take k).map Knot.At).map (Value.int .i64))) ∧ Hid (Below w2.heap.size w2 wr)) (fun _ s10 _ => na - (intOf s10).toNat)
  case atStart => exact ⟨0, Nat.zero_le _, rfl, World.ownsRow_lit w2 #[.int .i64 lo, .int .i64 hi] 2 (Nat.le_refl _) (by unfold maxLen; omega) rfl, (Below.refl _ _).alloc (Nat.le_refl _) _⟩
  case round =>
    obtain ⟨k, hk, rfl, hown, BW⟩ := hrel
    have BB := Lib.hid (HB2.out.trans (BW.out.mono HB2.out.size))
    have hsw := BW.out.size
    have q0 := (Hb0.out.under BW.out).cell 0
    simp only [List.getElem?_toArray, List.getElem?_cons_zero] at q0
    by_cases hlt : k < na
    · have f0 := oldCell BB.out hba (HCA.out k hlt).1
      have hsa := Lib.hid (HSA.out k hlt)
      have hzl := HZA.out k
      have hpl : ([lo, hi] ++ (la.take k).map Knot.At).length ≤ na + 2 := by simp only [List.length_append, List.length_cons, List.length_nil]; omega
      generalize hxs : [lo, hi] ++ (la.take k).map Knot.At = xs at *
      have HXS := Lib.hid hxs
      clear hxs
      go_wp2_with (at_builtin; refine wpList_append_own _ rfl _ _ 32 rfl w2.heap.size 2 i0 (.int .i64 0) 1 8 Try.underlying32 hi0 hz0 hz1 hz2 rfl (by decide) _ _ _ rfl (hown.out.alloc _) ⟨wr.heap.size, 0, none⟩ 1 1 [.int .i64 (kn la k).At] rfl rfl ?_ ?_ ?_ ?_ ?_ ?_)
      · exact cells_new wr [.int .i64 (kn la k).At] 2
      · simp [Value.oneCell']
      · unfold maxLen; omega
      · omega
      · simp; omega
      intro v' w3 hown3 hg3 _
      have HO3 := Lib.hid hown3
      have HB3 := Lib.hid (below_grown (BW.out.alloc hsw _) (hown.out.alloc _) hg3 (by simp; omega))
      clear hown3 hg3 q0 f0
      go_wp2_with fail
      go_roundw
      case rel => exact ⟨k + 1, hlt, by go_num, by unfold Hid; rw [hsa.out, ← List.append_assoc, HXS.out]; simpa using HO3.out, HB3.out⟩
      case measure => simp [intOf]; omega
    · obtain rfl : k = na := by omega
      rw [HEA.out] at hown
      clear hlt hk HCA HSA HEA HZA
      have hlenA : ([lo, hi] ++ la.map Knot.At).length = k + 2 := by simp only [List.length_append, List.length_cons, List.length_nil, HMA.out]; omega
      generalize hxa : [lo, hi] ++ la.map Knot.At = xa at *
      have HLX := Lib.hid hlenA
      clear hlenA hxa
      go_wp2_with fail
      clear q0
      obtain ⟨wo, rfl⟩ : ∃ wo : World, wo = wr := ⟨_, rfl⟩
      go_loopw [9, 11] (fun s9 s11 wr => ∃ i : Nat, i ≤ nb ∧ s11 = .int .i64 i ∧ Hid (wr.ownsRow w2.heap.size 2 1 s9 (xa ++ (lb.take i).map Knot.At).length ((xa ++ (lb.take i).map Knot.At).map (Value.int .i64))) ∧ Hid (Below w2.heap.size w2 wr)) (fun _ s11 _ => nb - (intOf s11).toNat)
      case atStart => exact ⟨0, Nat.zero_le _, rfl, by unfold Hid; simpa using hown.out, BW⟩
      case round =>
        obtain ⟨i, hi', rfl, hown2, BW2⟩ := hrel
        have BB2 := Lib.hid (HB2.out.trans (BW2.out.mono HB2.out.size))
        have hsw2 := BW2.out.size
        have q1 := (Hb1.out.under BW2.out).cell 0
        simp only [List.getElem?_toArray, List.getElem?_cons_zero] at q1
        by_cases hlt : i < nb
        · have f0 := oldCell BB2.out hbb (HCB.out i hlt).1
          have hsa := Lib.hid (HSB.out i hlt)
          have hzl := HZB.out i
          have hpl : (xa ++ (lb.take i).map Knot.At).length ≤ k + 2 + nb := by rw [List.length_append, HLX.out]; omega
          generalize hxs : xa ++ (lb.take i).map Knot.At = xs at *
          have HXS := Lib.hid hxs
          clear hxs
          go_wp2_with (at_builtin; refine wpList_append_own _ rfl _ _ 32 rfl w2.heap.size 2 i0 (.int .i64 0) 1 8 Try.underlying32 hi0 hz0 hz1 hz2 rfl (by decide) _ _ _ rfl (hown2.out.alloc _) ⟨wr.heap.size, 0, none⟩ 1 1 [.int .i64 (kn lb i).At] rfl rfl ?_ ?_ ?_ ?_ ?_ ?_)
          · exact cells_new wr [.int .i64 (kn lb i).At] 2
          · simp [Value.oneCell']
          · unfold maxLen; omega
          · omega
          · simp; omega
          intro v' w3 hown3 hg3 _
          have HO3 := Lib.hid hown3
          have HB3 := Lib.hid (below_grown (BW2.out.alloc hsw2 _) (hown2.out.alloc _) hg3 (by simp; omega))
          clear hown3 hg3 q1 f0
          go_wp2_with fail
          go_roundw
          case rel => exact ⟨i + 1, hlt, by go_num, by unfold Hid; rw [hsa.out, ← List.append_assoc, HXS.out]; simpa using HO3.out, HB3.out⟩
          case measure => simp [intOf]; omega
        · obtain rfl : i = nb := by omega
          rw [HEB.out] at hown2
          clear hlt hi' HCB HSB HEB HZB
          have hlenB : (xa ++ lb.map Knot.At).length = k + 2 + i := by rw [List.length_append, HLX.out, HMB.out]
          generalize hxb : xa ++ lb.map Knot.At = xb at *
          have HLB := Lib.hid hlenB
          have hm50 : k + 2 + i ≤ 100 := by omega
          clear hxb hlenB
          obtain ⟨g, cap, rfl, _, hg1, hg2, hcell⟩ := own_out hown2.out (by rw [HLB.out]; omega)
          have HCL := Lib.hid (show ∀ t, t < k + 2 + i → wr.cell? ⟨g, t, none⟩ = some (.int .i64 (pick xb t)) from fun t ht => hcell t _ (by rw [← HLB.out] at ht; simp [pick, ht]))
          rw [HLB.out]
          clear hcell hown2
          generalize hm : k + 2 + i = m at *
          clear hm
          go_wp2_with fail
          have a0 := (Hb0.out.under BW2.out)
          have a1 := (Hb1.out.under BW2.out)
          have HA0 := Lib.hid a0
          have HA1 := Lib.hid a1
          have f0 := a0.cell 0
          have f1 := a1.cell 0
          simp only [List.getElem?_toArray, List.getElem?_cons_zero] at f0 f1
          obtain ⟨wo, hwo⟩ : ∃ wo : World, wo = wr := ⟨_, rfl⟩
          have r1 := hra.out lo
          have r2 := hrb.out lo
          have y1 : IntKind.i64.wrap ((fa lo).Hi - (fb lo).Lo) = (fa lo).Hi - (fb lo).Lo := IntWalk.i64_in _ (by omega)
          have hx0 := Lib.hid (hex.out lo)
          have rf0 := run_field_lo
          have rf1 := run_field_hi
          clear q1 a0 a1 hwo r1 r2
          go_region_held3 (fun w' => w'.cell? ⟨w.heap.size, 0, none⟩ = some (.slice (some ⟨ba, oa, none⟩) k c0) ∧ w'.cell? ⟨w.heap.size + 1, 0, none⟩ = some (.slice (some ⟨bb, ob, none⟩) i c1)) (first | exact ⟨f0, f1⟩ | exact ⟨x0, x1⟩ | exact ⟨y0, y2⟩)
            (first
              | (go_at_call 85; (with_reducible refine (HTA.out _ lo BB2.out.drew).mono ?_); rintro e w5 ⟨rfl, hb5⟩; have x0 := (HA0.out.drew.under hb5).cell 0; have x1 := (HA1.out.drew.under hb5).cell 0; simp only [List.getElem?_toArray, List.getElem?_cons_zero] at x0 x1)
              | (go_at_call 85; (with_reducible refine (HTB.out _ lo (BB2.out.drew.trans (hb5.mono BB2.out.drew.size))).mono ?_); rintro e w6 ⟨rfl, hb6⟩; have y0 := ((HA0.out.drew.under hb5).under hb6).cell 0; have y2 := ((HA1.out.drew.under hb5).under hb6).cell 0; simp only [List.getElem?_toArray, List.getElem?_cons_zero] at y0 y2))
          clear x0 x1 y0 y2 f0 f1 y1
          rw [← hx0.out]
          have BB3 := Lib.hid ((BB2.out.drew.trans (hb5.mono BB2.out.drew.size)).trans (hb6.mono (BB2.out.drew.trans (hb5.mono BB2.out.drew.size)).size))
          have BV := Lib.hid (show Below wr.heap.size wr w6 from (Below.refl _ _).drew.trans (hb5.trans (hb6.mono hb5.size)))
          replace HA0 := Lib.hid (HA0.out.under BV.out)
          replace HA1 := Lib.hid (HA1.out.under BV.out)
          replace HCL := Lib.hid (fun t ht => oldCell BV.out hg2 (HCL.out t ht))
          have hl0 := HA0.out.lt
          have hl1 := HA1.out.lt
          have hl2 : g < w6.heap.size := by have := BV.out.size; omega
          clear hb5 hb6 BV BB2 hg2 hx0
          have hexb : Hid (∀ z, -68719476736 ≤ ex z ∧ ex z ≤ 68719476736) := fun z => by
            have h1 := hra.out z
            have h2 := hrb.out z
            rw [hex.out]
            omega
          have HRX := Lib.hid (show refold ex lo hi (xb.drop 0) (ex lo) = res from HR.out)
          have hel := hexb.out lo
          have HMX := Lib.hid HLB.out
          clear HR HB2 Hb0 Hb1 HMA HMB HLX
          generalize ex lo = o0 at *
          obtain ⟨hel1, hel2⟩ := hel
          go_wp2_with fail
          obtain ⟨wp, rfl⟩ : ∃ wp : World, wp = wr := ⟨_, rfl⟩
          go_loopw [12, 13] (fun s12 s13 wr => ∃ (t : Nat) (o : Int), t ≤ m ∧ s13 = .int .i64 t ∧ s12 = .int .i64 o ∧ Hid (refold ex lo hi (xb.drop t) o = res) ∧ Hid (Below w6.heap.size w6 wr)) (fun _ s13 _ => m - (intOf s13).toNat)
          case atStart => exact ⟨0, o0, Nat.zero_le _, rfl, rfl, HRX, Below.refl _ _⟩
          case round =>
            obtain ⟨t, o, ht, rfl, rfl, hr, BV⟩ := hrel
            have BB4 := Lib.hid (BB3.out.trans (BV.out.mono BB3.out.size))
            by_cases hlt : t < m
            · have ct := oldCell BV.out hl2 (HCL.out t hlt)
              have hst := Lib.hid (refold_step ex lo hi xb t (by rw [HMX.out]; exact hlt) o)
              have HCT := Lib.hid (HCL.out t hlt)
              generalize pick xb t = z at *
              have hlt' : decide ((t : Int) < (m : Int)) = true := decide_eq_true (by omega)
              by_cases h1 : lo ≤ z
              case neg =>
                have h1' : decide (lo ≤ z) = false := decide_eq_false h1
                rw [if_neg (by omega)] at hst
                go_wp2_with fail
                go_roundw
                case rel => exact ⟨t + 1, o, hlt, by go_num, rfl, by unfold Hid; rw [← hst.out]; exact hr.out, BV⟩
                case measure => simp [intOf]; omega
              have h1' : decide (lo ≤ z) = true := decide_eq_true h1
              by_cases h2 : z ≤ hi
              case neg =>
                have h2' : decide (z ≤ hi) = false := decide_eq_false h2
                rw [if_neg (by omega)] at hst
                go_wp2_with fail
                go_roundw
                case rel => exact ⟨t + 1, o, hlt, by go_num, rfl, by unfold Hid; rw [← hst.out]; exact hr.out, BV⟩
                case measure => simp [intOf]; omega
              have h2' : decide (z ≤ hi) = true := decide_eq_true h2
              rw [if_pos ⟨h1, h2⟩] at hst
              go_wp2_with fail
              have f0 := (HA0.out.under BV.out).cell 0
              have f1 := (HA1.out.under BV.out).cell 0
              simp only [List.getElem?_toArray, List.getElem?_cons_zero] at f0 f1
              have r1 := hra.out z
              have r2 := hrb.out z
              have y1 : IntKind.i64.wrap ((fa z).Hi - (fb z).Lo) = (fa z).Hi - (fb z).Lo := IntWalk.i64_in _ (by omega)
              have hx0 := Lib.hid (hex.out z)
              rw [hx0.out] at hst
              clear r1 r2
              by_cases hmx : o < (fa z).Hi - (fb z).Lo
              · rw [show max o ((fa z).Hi - (fb z).Lo) = (fa z).Hi - (fb z).Lo by omega] at hst
                go_region_held3 (fun w' => w'.cell? ⟨w.heap.size, 0, none⟩ = some (.slice (some ⟨ba, oa, none⟩) k c0) ∧ w'.cell? ⟨w.heap.size + 1, 0, none⟩ = some (.slice (some ⟨bb, ob, none⟩) i c1) ∧ w'.cell? ⟨g, t, none⟩ = some (.int .i64 z)) (first | exact ⟨f0, f1, ct⟩ | exact ⟨x0, x1, x2⟩ | exact ⟨y0, y2, y3⟩)
                  (first
                    | (go_at_call 85; (with_reducible refine (HTA.out _ z BB4.out.drew).mono ?_); rintro e w7 ⟨rfl, hb7⟩; have x0 := ((HA0.out.under BV.out).drew.under hb7).cell 0; have x1 := ((HA1.out.under BV.out).drew.under hb7).cell 0; have x2 := oldCell (BV.out.drew.trans (hb7.mono BV.out.size)) hl2 HCT.out; simp only [List.getElem?_toArray, List.getElem?_cons_zero] at x0 x1)
                    | (go_at_call 85; (with_reducible refine (HTB.out _ z (BB4.out.drew.trans (hb7.mono BB4.out.drew.size))).mono ?_); rintro e w8 ⟨rfl, hb8⟩; have y0 := (((HA0.out.under BV.out).drew.under hb7).under hb8).cell 0; have y2 := (((HA1.out.under BV.out).drew.under hb7).under hb8).cell 0; have y3 := oldCell ((BV.out.drew.trans (hb7.mono BV.out.drew.size)).trans (hb8.mono (BV.out.drew.trans (hb7.mono BV.out.drew.size)).size)) hl2 HCT.out; simp only [List.getElem?_toArray, List.getElem?_cons_zero] at y0 y2))
                clear x0 x1 x2 y0 y2 y3 f0 f1 ct y1
                have BV2 := Lib.hid ((BV.out.drew.trans (hb7.mono BV.out.drew.size)).trans (hb8.mono (BV.out.drew.trans (hb7.mono BV.out.drew.size)).size))
                clear hb7 hb8
                go_wp2_with fail
                go_roundw
                case rel => exact ⟨t + 1, _, hlt, by go_num, rfl, by unfold Hid; rw [← hst.out]; exact hr.out, BV2⟩
                case measure => simp [intOf]; omega
              · rw [show max o ((fa z).Hi - (fb z).Lo) = o by omega] at hst
                go_region_held3 (fun w' => w'.cell? ⟨w.heap.size, 0, none⟩ = some (.slice (some ⟨ba, oa, none⟩) k c0) ∧ w'.cell? ⟨w.heap.size + 1, 0, none⟩ = some (.slice (some ⟨bb, ob, none⟩) i c1) ∧ w'.cell? ⟨g, t, none⟩ = some (.int .i64 z)) (first | exact ⟨f0, f1, ct⟩ | exact ⟨x0, x1, x2⟩ | exact ⟨y0, y2, y3⟩)
                  (first
                    | (go_at_call 85; (with_reducible refine (HTA.out _ z BB4.out.drew).mono ?_); rintro e w7 ⟨rfl, hb7⟩; have x0 := ((HA0.out.under BV.out).drew.under hb7).cell 0; have x1 := ((HA1.out.under BV.out).drew.under hb7).cell 0; have x2 := oldCell (BV.out.drew.trans (hb7.mono BV.out.size)) hl2 HCT.out; simp only [List.getElem?_toArray, List.getElem?_cons_zero] at x0 x1)
                    | (go_at_call 85; (with_reducible refine (HTB.out _ z (BB4.out.drew.trans (hb7.mono BB4.out.drew.size))).mono ?_); rintro e w8 ⟨rfl, hb8⟩; have y0 := (((HA0.out.under BV.out).drew.under hb7).under hb8).cell 0; have y2 := (((HA1.out.under BV.out).drew.under hb7).under hb8).cell 0; have y3 := oldCell ((BV.out.drew.trans (hb7.mono BV.out.drew.size)).trans (hb8.mono (BV.out.drew.trans (hb7.mono BV.out.drew.size)).size)) hl2 HCT.out; simp only [List.getElem?_toArray, List.getElem?_cons_zero] at y0 y2))
                clear x0 x1 x2 y0 y2 y3 f0 f1 ct y1
                have BV2 := Lib.hid ((BV.out.drew.trans (hb7.mono BV.out.drew.size)).trans (hb8.mono (BV.out.drew.trans (hb7.mono BV.out.drew.size)).size))
                clear hb7 hb8
                go_wp2_with fail
                go_roundw
                case rel => exact ⟨t + 1, _, hlt, by go_num, rfl, by unfold Hid; rw [if_neg (by omega), ← hst.out]; exact hr.out, BV2⟩
                case measure => simp [intOf]; omega
            · have hnk : decide ((t : Int) < (m : Int)) = false := decide_eq_false (by omega)
              go_wp2_with fail
              go_ret
              refine ⟨ret_int ?_, BB4.out⟩
              rw [← hr.out, List.drop_eq_nil_of_le (by rw [HMX.out]; omega)]
              rfl

set_option maxHeartbeats 1000000 in
theorem ref05_excess (la lb : List Knot) (lo hi : Int) (va vb : Value) (w : World) (hA : LineV w w.heap.size va la) (hB : LineV w w.heap.size vb lb) :
    Calls Try.prog 47 #[va, vb, .int .i64 lo, .int .i64 hi] w fun e w' => e = .returned (.int .i64 (extreme la lb lo hi)) ∧ Below w.heap.size w w' := by
  have HA := Lib.hid hA
  have HB := Lib.hid hB
  obtain ⟨A0, c0, rfl, kA⟩ := hA
  obtain ⟨A1, c1, rfl, kB⟩ := hB
  by_cases hall : okLine la = 0 ∧ okLine lb = 0 ∧ 0 ≤ lo ∧ lo ≤ hi ∧ hi ≤ 1048576
  · obtain ⟨h0, h1, h2, h3, h4⟩ := hall
    have := ref05_excess_walk la lb lo hi A0 A1 c0 c1 w kA kB h0 h1 h2 h3 h4
    rw [refold_places _ _ _ _ h3] at this
    rw [extreme, if_neg (by omega)]
    exact this
  · have hs := Lib.hid (show extreme la lb lo hi = 0 by rw [extreme, if_pos (by omega)])
    have hc : okLine la ≠ 0 ∨ (okLine la = 0 ∧ okLine lb ≠ 0) ∨ (okLine la = 0 ∧ okLine lb = 0 ∧ lo < 0) ∨ (okLine la = 0 ∧ okLine lb = 0 ∧ 0 ≤ lo ∧ hi < lo) ∨ (okLine la = 0 ∧ okLine lb = 0 ∧ 0 ≤ lo ∧ lo ≤ hi ∧ 1048576 < hi) := by omega
    have HLA := Lib.hid (fun W (hW : Below w.heap.size w W) => ref05_line _ la W (HA.out.below hW))
    have HLB := Lib.hid (fun W (hW : Below w.heap.size w W) => ref05_line _ lb W (HB.out.below hW))
    clear hall kA kB
    generalize okLine la = ea at *
    generalize okLine lb = eb at *
    generalize la.length = na at *
    generalize lb.length = nb at *
    obtain ⟨w0, hw0⟩ : ∃ w0, ((w.alloc (.cells #[.slice A0 na c0] 24)).alloc (.cells #[.slice A1 nb c1] 24)) = w0 := ⟨_, rfl⟩
    have b1 : Box w0 (w.heap.size + 1) 24 #[.slice A1 nb c1] := by rw [← hw0]; exact Box.new _ _ _ (by simp)
    have hB0 : Below w.heap.size w w0 := by rw [← hw0]; exact (by repeat (first | exact Below.refl _ _ | assumption | refine Below.setCell ?_ (by first | (simp; done) | (simp; omega)) _ | refine belowDrewN ?_ _ | refine Below.drew ?_ | refine Below.alloc ?_ (by first | (simp; done) | (simp; omega)) _))
    have HW0 := Lib.hid hw0
    clear hw0
    rcases hc with h1 | ⟨rfl, h2⟩ | ⟨rfl, rfl, h3⟩ | ⟨rfl, rfl, h3, h4⟩ | ⟨rfl, rfl, h3, h4, h5⟩
    · have d0 : (ea != 0) = true := by simpa using h1
      go_enter Try.func47, Try.ntmps47
      go_wp2_with fail
      rw [HW0.out]
      refine (HLA.out _ hB0).mono ?_
      rintro e w1 ⟨rfl, hb1⟩
      have hB1 := hB0.trans (hb1.mono hB0.size)
      go_wp2_with fail
      go_ret
      exact ⟨ret_int hs.out.symm, hB1⟩
    · have d0 : (eb != 0) = true := by simpa using h2
      go_enter Try.func47, Try.ntmps47
      go_wp2_with fail
      rw [HW0.out]
      refine (HLA.out _ hB0).mono ?_
      rintro e w1 ⟨rfl, hb1⟩
      have hB1 := hB0.trans (hb1.mono hB0.size)
      have q1 := (b1.under hb1).cell 0
      simp only [List.getElem?_toArray, List.getElem?_cons_zero] at q1
      go_wp2_with fail
      refine (HLB.out _ hB1).mono ?_
      rintro e w2 ⟨rfl, hb2⟩
      go_wp2_with fail
      go_ret
      exact ⟨ret_int hs.out.symm, hB1.trans (hb2.mono hB1.size)⟩
    · have d1 : decide (lo < 0) = true := decide_eq_true (by omega)
      go_enter Try.func47, Try.ntmps47
      go_wp2_with fail
      rw [HW0.out]
      refine (HLA.out _ hB0).mono ?_
      rintro e w1 ⟨rfl, hb1⟩
      have hB1 := hB0.trans (hb1.mono hB0.size)
      have q1 := (b1.under hb1).cell 0
      simp only [List.getElem?_toArray, List.getElem?_cons_zero] at q1
      go_wp2_with fail
      refine (HLB.out _ hB1).mono ?_
      rintro e w2 ⟨rfl, hb2⟩
      go_wp2_with fail
      go_ret
      exact ⟨ret_int hs.out.symm, hB1.trans (hb2.mono hB1.size)⟩
    · have d1 : decide (lo < 0) = false := decide_eq_false (by omega)
      have d2 : decide (hi < lo) = true := decide_eq_true (by omega)
      go_enter Try.func47, Try.ntmps47
      go_wp2_with fail
      rw [HW0.out]
      refine (HLA.out _ hB0).mono ?_
      rintro e w1 ⟨rfl, hb1⟩
      have hB1 := hB0.trans (hb1.mono hB0.size)
      have q1 := (b1.under hb1).cell 0
      simp only [List.getElem?_toArray, List.getElem?_cons_zero] at q1
      go_wp2_with fail
      refine (HLB.out _ hB1).mono ?_
      rintro e w2 ⟨rfl, hb2⟩
      go_wp2_with fail
      go_ret
      exact ⟨ret_int hs.out.symm, hB1.trans (hb2.mono hB1.size)⟩
    · have d1 : decide (lo < 0) = false := decide_eq_false (by omega)
      have d2 : decide (hi < lo) = false := decide_eq_false (by omega)
      have d3 : decide (1048576 < hi) = true := decide_eq_true (by omega)
      go_enter Try.func47, Try.ntmps47
      go_wp2_with fail
      rw [HW0.out]
      refine (HLA.out _ hB0).mono ?_
      rintro e w1 ⟨rfl, hb1⟩
      have hB1 := hB0.trans (hb1.mono hB0.size)
      have q1 := (b1.under hb1).cell 0
      simp only [List.getElem?_toArray, List.getElem?_cons_zero] at q1
      go_wp2_with fail
      refine (HLB.out _ hB1).mono ?_
      rintro e w2 ⟨rfl, hb2⟩
      go_wp2_with fail
      go_ret
      exact ⟨ret_int hs.out.symm, hB1.trans (hb2.mono hB1.size)⟩

theorem ref05_Inside (l : Stress) (lo hi : Int) (v0 : Value) (w : World) (hv : StressV w w.heap.size v0 l) :
    Calls Try.prog 16 #[v0, .int .i64 lo, .int .i64 hi] w fun e w' => e = .returned (.int .i64 (inside l lo hi)) ∧ Below w.heap.size w w' := by
  obtain ⟨AI, cI, AO, cO, rfl, hI, hO⟩ := hv
  have H := Lib.hid (fun W (hW : Below w.heap.size w W) => ref05_excess l.In l.Out lo hi _ _ W ⟨AI, cI, rfl, hI.up hW hW.size⟩ ⟨AO, cO, rfl, hO.up hW hW.size⟩)
  clear hI hO
  unfold inside
  generalize l.In.length = n0 at *
  generalize l.Out.length = n1 at *
  have hB := (Below.refl w.heap.size w).alloc (Nat.le_refl _) (.cells #[.slice AI n0 cI, .slice AO n1 cO] 26)
  go_enter Try.func16, Try.ntmps16
  go_wp2_with fail
  refine (H.out _ hB).mono ?_
  rintro e w1 ⟨rfl, hb1⟩
  go_wp2_with fail
  go_ret
  exact ⟨rfl, hB.trans (hb1.mono hB.size)⟩
theorem ref05_Outside (l : Stress) (lo hi : Int) (v0 : Value) (w : World) (hv : StressV w w.heap.size v0 l) :
    Calls Try.prog 18 #[v0, .int .i64 lo, .int .i64 hi] w fun e w' => e = .returned (.int .i64 (outside l lo hi)) ∧ Below w.heap.size w w' := by
  obtain ⟨AI, cI, AO, cO, rfl, hI, hO⟩ := hv
  have H := Lib.hid (fun W (hW : Below w.heap.size w W) => ref05_excess l.Out l.In lo hi _ _ W ⟨AO, cO, rfl, hO.up hW hW.size⟩ ⟨AI, cI, rfl, hI.up hW hW.size⟩)
  clear hI hO
  unfold outside
  generalize l.In.length = n0 at *
  generalize l.Out.length = n1 at *
  have hB := (Below.refl w.heap.size w).alloc (Nat.le_refl _) (.cells #[.slice AI n0 cI, .slice AO n1 cO] 26)
  go_enter Try.func18, Try.ntmps18
  go_wp2_with fail
  refine (H.out _ hB).mono ?_
  rintro e w1 ⟨rfl, hb1⟩
  go_wp2_with fail
  go_ret
  exact ⟨rfl, hB.trans (hb1.mono hB.size)⟩

theorem law05_short (l : Stress) (v0 : Value) (w : World) (hv : StressV w w.heap.size v0 l) :
    Calls Try.prog 13 #[v0] w fun e w' => e = .returned (.bool (decide (l.In.length ≤ 26) && decide (l.Out.length ≤ 26))) ∧ Below w.heap.size w w' := by
  obtain ⟨AI, cI, AO, cO, rfl, hI, hO⟩ := hv
  clear hI hO
  generalize l.In.length = n0 at *
  generalize l.Out.length = n1 at *
  by_cases h0 : n0 ≤ 26
  · have d0 : decide ((n0 : Int) ≤ 26) = true := decide_eq_true (by omega)
    have e0 : decide (n0 ≤ 26) = true := decide_eq_true h0
    rw [e0]
    by_cases h1 : n1 ≤ 26
    · have d1 : decide ((n1 : Int) ≤ 26) = true := decide_eq_true (by omega)
      have e1 : decide (n1 ≤ 26) = true := decide_eq_true h1
      rw [e1]
      go_enter Try.func13, Try.ntmps13
      go_wp2_with fail
      go_ret
      exact ⟨rfl, (by repeat (first | exact Below.refl _ _ | assumption | refine Below.setCell ?_ (by first | (simp; done) | (simp; omega)) _ | refine belowDrewN ?_ _ | refine Below.drew ?_ | refine Below.alloc ?_ (by first | (simp; done) | (simp; omega)) _))⟩
    · have d1 : decide ((n1 : Int) ≤ 26) = false := decide_eq_false (by omega)
      have e1 : decide (n1 ≤ 26) = false := decide_eq_false h1
      rw [e1]
      go_enter Try.func13, Try.ntmps13
      go_wp2_with fail
      go_ret
      exact ⟨rfl, (by repeat (first | exact Below.refl _ _ | assumption | refine Below.setCell ?_ (by first | (simp; done) | (simp; omega)) _ | refine belowDrewN ?_ _ | refine Below.drew ?_ | refine Below.alloc ?_ (by first | (simp; done) | (simp; omega)) _))⟩
  · have d0 : decide ((n0 : Int) ≤ 26) = false := decide_eq_false (by omega)
    have e0 : decide (n0 ≤ 26) = false := decide_eq_false h0
    rw [e0]
    go_enter Try.func13, Try.ntmps13
    go_wp2_with fail
    go_ret
    exact ⟨rfl, (by repeat (first | exact Below.refl _ _ | assumption | refine Below.setCell ?_ (by first | (simp; done) | (simp; omega)) _ | refine belowDrewN ?_ _ | refine Below.drew ?_ | refine Below.alloc ?_ (by first | (simp; done) | (simp; omega)) _))⟩

end Go.Proofs.Ytannipfohicpmaa
