/- Walks of the package fluid: the height line of a hole, which may be not valid; the rise. -/
import Derived.Test.YtnhnheigdlnokaaFHeight
namespace Go.Proofs.Ytnhnheigdlnokaa
open Go.RowKit Go.Shelf Mpl

theorem load_line1 {w : World} {g t : Nat} {v : Value} (b : Box w g t #[v]) : (loadVar 62 ⟨g, 0, none⟩).run Try.prog w = .ok (.agg #[v]) w := load_line b

set_option maxHeartbeats 1000000 in
theorem fluid_Height (v0 : Value) (l : List Seg) (w : World) (hv : HoleV w w.heap.size v0 l) (hin : SegsIn l) (hm : l.length ≤ maxLen) :
    Calls Try.prog 13 #[v0] w fun e w' => (∃ v, e = .returned v ∧ LineV w' w'.heap.size v (heightOf l)) ∧ Below w.heap.size w w' := by
  have hvv := hv
  obtain ⟨A, c, rfl, hS⟩ := hv
  by_cases h0 : checkHole l = 0
  · have hg := (checkHole_iff l).1 h0
    refine (height_walk l A c l.length w rfl hS hg (fun W hW => ?_)).mono ?_
    · have := fluid_CheckHole _ l W (hvv.up hW hW.size) hin hm
      rwa [h0] at this
    · rintro e w' ⟨⟨A', c', rfl, hown⟩, hb⟩
      refine ⟨⟨_, rfl, A', c', ?_, ?_⟩, hb⟩
      · rw [heightOf_good hg]
      · rw [heightOf_good hg]; exact Knots.own_slice hown
  · have hh : Hid (heightOf l = []) := by simp [Hid, heightOf, h0]
    have hB := (((Below.refl w.heap.size w).alloc (Nat.le_refl _) (.cells #[.slice A l.length c] 27)).alloc (by simp) (.cells #[.slice none 0 0] 62))
    have HC := Lib.hid (fluid_CheckHole _ l _ (hvv.up hB hB.size) hin hm)
    have br : Box (((w.alloc (.cells #[.slice A l.length c] 27)).alloc (.cells #[.slice none 0 0] 62))) (w.heap.size + 1) 62 #[.slice none 0 0] := Box.new _ _ _ (by simp)
    have BR := Lib.hid br
    have HB := Lib.hid hB
    have hz : (checkHole l != 0) = true := by simpa using h0
    clear h0 hvv hin hS br hB
    generalize checkHole l = ch at *
    generalize l.length = n at *
    go_enter Try.func13, Try.ntmps13
    go_wp2_with fail
    refine HC.out.mono ?_
    rintro e w1 ⟨rfl, hb1⟩
    have b1 := BR.out.under hb1
    have q0 := b1.cell 0
    have q1 := b1.frozen 0
    simp only [List.getElem?_toArray, List.getElem?_cons_zero] at q0
    have B1 := Lib.hid b1
    have HB1 := Lib.hid (HB.out.trans (hb1.mono HB.out.size))
    clear b1 hb1
    go_wp2_with fail
    refine bodyPost_ret (results_cell1 rfl _ _ _ (w.heap.size + 1) (.agg #[.slice none 0 0]) rfl (load_line (t := 62) (by simpa using B1.out.set_ 0 (.slice none 0 0)))) rfl ⟨⟨_, rfl, none, 0, ?_, ?_⟩, ?_⟩
    · rw [hh.out]; rfl
    · rw [hh.out]; exact fun h => absurd h (by simp)
    · exact HB1.out.setCell (p := ⟨w.heap.size + 1, 0, none⟩) (by simp) _

set_option maxHeartbeats 1000000 in
theorem fluid_rise (v0 : Value) (l : List Seg) (w : World) (hv : HoleV w w.heap.size v0 l) (hg : GoodHole l) :
    Calls Try.prog 15 #[v0] w fun e w' => e = .returned (.int .i64 (riseUp l l.length)) ∧ Below w.heap.size w w' := by
  obtain ⟨A, c, rfl, hS⟩ := hv
  obtain ⟨b, off, rfl, hb, hc⟩ := hS hg.pos
  have HC := Lib.hid hc
  have HG := Lib.hid hg
  have hfew := hg.few
  clear hc hg hS
  generalize hn : l.length = n at *
  have HN := Lib.hid hn
  clear hn
  go_enter Try.func15, Try.ntmps15
  go_wp2_with fail
  go_loopw [3, 9] (fun s3 s9 wr => ∃ k : Nat, k ≤ n ∧ s9 = .int .i64 k ∧ s3 = .int .i64 (riseUp l k) ∧ Hid (Below w.heap.size w wr)) (fun _ s9 _ => n - (intOf s9).toNat)
  case atStart => exact ⟨0, Nat.zero_le _, rfl, rfl, (Below.refl _ _).alloc (Nat.le_refl _) _⟩
  case round =>
    obtain ⟨k, hk, rfl, rfl, BW⟩ := hrel
    have hsz := BW.out.size
    by_cases hlt : k < n
    · obtain ⟨c0, c1, c2, c3⟩ := HC.out k hlt
      have d0 := oldCell BW.out hb c0
      have d1 := oldCell BW.out hb c1
      have d2 := oldCell BW.out hb c2
      have d3 := oldCell BW.out hb c3
      have hs := Lib.hid (riseUp_step l k)
      have hu := HG.out.ups k (by rw [HN.out]; omega)
      have hu1 := HG.out.fair k (by rw [HN.out]; omega)
      have hu2 := HG.out.seg (k := k) (by rw [HN.out]; omega)
      have r0 : 0 ≤ riseUp l k := hu.2.2.1
      have r1 : riseUp l k ≤ 1048576 := by omega
      have r2 := hu1.rise0
      have r3 : (sg l k).Rise ≤ 1048576 := by have := hu1.rise1; omega
      clear c0 c1 c2 c3 hu hu1 hu2
      go_wp2_with fail
      go_roundw
      case rel => exact ⟨k + 1, hlt, by go_num, by rw [hs.out], BW.out.alloc hsz _⟩
      case measure => simp [intOf]; omega
    · obtain rfl : k = n := by omega
      go_wp2_with fail
      go_ret
      exact ⟨rfl, BW.out⟩

theorem hole_load {w : World} {g : Nat} {v : Value} (h : Box w g 27 #[v]) : w.cell? ⟨g, 0, none⟩ = some v := h.cell 0

end Go.Proofs.Ytnhnheigdlnokaa
