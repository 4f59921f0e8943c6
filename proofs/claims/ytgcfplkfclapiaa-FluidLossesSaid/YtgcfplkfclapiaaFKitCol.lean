/- Walks of moonpoolkit: a column made of numbers. -/
import Derived.Test.YtgcfplkfclapiaaFRefHole
import Derived.Test.YtgcfplkfclapiaaFColumn
import Derived.Test.YtgcfplkfclapiaaFPumpLaw
namespace Mpl
/-- a column made of numbers -/
structure Colum (V : Int) (l : List Slug) : Prop where
  pos : 0 < l.length
  few : l.length ≤ 6
  one : ∀ s ∈ l, 9000 ≤ s.Weight ∧ s.Weight ≤ 22000 ∧ 1 ≤ s.Volume
  full : total l = V
theorem Colum.good {h : List Seg} {l : List Slug} (c : Colum (sizeUp h h.length) l) (g : GoodHole h) : GoodCol h l := by
  refine ⟨g, c.pos, by have := c.few; omega, fun i hi => ?_, fun i hi => (c.one _ (slg_mem hi)).2.2, by rw [← total_held]; exact c.full⟩
  have := c.one _ (slg_mem hi)
  omega
theorem total_snoc (l : List Slug) (s : Slug) : total (l ++ [s]) = total l + s.Volume := by simp [total]
/-- a column so far, and what is left -/
structure ColSo (V R : Int) (l : List Slug) : Prop where
  one : ∀ s ∈ l, 9000 ≤ s.Weight ∧ s.Weight ≤ 22000 ∧ 1 ≤ s.Volume
  sum : total l + R = V
  left : 1 ≤ R
  tot : 0 ≤ total l
theorem ColSo.nil {V : Int} (h : 1 ≤ V) : ColSo V V [] := ⟨fun s hs => absurd hs (by simp), by simp [total], h, by simp [total]⟩
theorem ColSo.snoc {V R : Int} {l : List Slug} (h : ColSo V R l) {w v : Int} (w0 : 9000 ≤ w) (w1 : w ≤ 22000) (v0 : 1 ≤ v) (v1 : v ≤ R - 1) : ColSo V (R - v) (l ++ [⟨w, v⟩]) := by
  refine ⟨fun s hs => ?_, by rw [total_snoc]; have := h.sum; simp only; omega, by omega, by rw [total_snoc]; have := h.tot; simp only; omega⟩
  rcases List.mem_append.1 hs with hs | hs
  · exact h.one s hs
  · rw [List.mem_singleton.1 hs]; exact ⟨w0, w1, v0⟩
theorem ColSo.done {V R : Int} {l : List Slug} (h : ColSo V R l) (h5 : l.length ≤ 5) {w : Int} (w0 : 9000 ≤ w) (w1 : w ≤ 22000) : Colum V (l ++ [⟨w, R⟩]) := by
  refine ⟨by simp, by simp; omega, fun s hs => ?_, by rw [total_snoc]; exact h.sum⟩
  rcases List.mem_append.1 hs with hs | hs
  · exact h.one s hs
  · rw [List.mem_singleton.1 hs]; exact ⟨w0, w1, h.left⟩
end Mpl
namespace Go.Proofs.Ytgcfplkfclapiaa
open Go.RowKit Go.Shelf Mpl

theorem Slugs.own {w : World} {base : Nat} {e : TypeId} {v : Value} {n : Nat} {l : List Slug} (h : w.ownsRow base e 2 v n (l.flatMap slugC)) :
    ∃ A c, v = .slice A l.length c ∧ l.length ≤ c ∧ Slugs w w.heap.size A l := by
  have hn : n = l.length := by have := h.1; rw [flatC_len slugC 2 (fun _ => rfl)] at this; omega
  subst hn
  obtain ⟨A, c, rfl, hnc, hc⟩ := own_form h
  refine ⟨A, c, rfl, hnc, fun h0 => ?_⟩
  obtain ⟨g, rfl, _, hlt, hcell⟩ := hc h0
  refine ⟨g, 0, rfl, hlt, fun i hi => ?_⟩
  have ht : slg l i = l[i] := by simp [slg, hi]
  have hg := fun j hj => flat_get slugC 2 (fun _ => rfl) l i j hi hj
  rw [ht]
  refine ⟨?_, ?_⟩
  · have := hcell (i * 2 + 0) _ ((hg 0 (by omega)).trans rfl); simpa using this
  · have := hcell (i * 2 + 1) _ ((hg 1 (by omega)).trans rfl); simpa using this
theorem info_Slug : (Try.prog.info? 39).map (fun i => (i.zero, i.size, i.bytes)) = some (some (.agg #[.int .i64 0, .int .i64 0]), 2, 16) := by kernel_rfl

theorem colum_fin {w2 : World} {V : Int} {B B' k : Nat} {ks : List Slug} {x : Slug} {v' : Value} (h : Colum V (ks ++ [x])) (hk : ks.length = k) (ho : w2.ownsRow B' 39 2 v' (k + 1) (ks.flatMap slugC ++ slugC x)) (hB : B ≤ B') :
    ∃ A' c' ls, Ending.returned v' = .returned (.slice A' ls.length c') ∧ w2.ownsRow B 39 2 (.slice A' ls.length c') ls.length (ls.flatMap slugC) ∧ Colum V ls := by
  have h1 : w2.ownsRow B' 39 2 v' (ks ++ [x]).length ((ks ++ [x]).flatMap slugC) := by
    rw [List.flatMap_append, List.length_append, hk]
    simpa using ho
  obtain ⟨A, c, rfl, _, _⟩ := own_form h1
  exact ⟨A, c, ks ++ [x], rfl, own_le h1 hB, h⟩

set_option maxHeartbeats 4000000 in
set_option maxRecDepth 100000 in
theorem kit_Column (h : List Seg) (v0 : Value) (l : List Int) (A : Option Addr) (c : Nat) (w : World) (hv : HoleV w w.heap.size v0 h) (hg : GoodHole h) (hl : Ints w w.heap.size A l) (hin : IntsIn l) (hm : l.length ≤ maxLen) :
    Calls Try.prog 19 #[v0, .slice A l.length c] w fun e w' => (∃ A' c' ls, e = .returned (.slice A' ls.length c') ∧ w'.ownsRow w.heap.size 39 2 (.slice A' ls.length c') ls.length (ls.flatMap slugC) ∧ Colum (sizeUp h h.length) ls) ∧ Below w.heap.size w w' := by
  have HP := Lib.hid (fun W (hW : Below w.heap.size w W) k (hk : k ≤ 1000) => kit_pick l A c k W (hl.up hW hW.size) hin hk hm)
  have hb := Lib.hid (kitPick_bounds l)
  have HVO := Lib.hid (fun W (hW : Below w.heap.size w W) => ref03_Volume v0 h W (hv.up hW hW.size))
  have hvol : volumeOf h = sizeUp h h.length := by unfold volumeOf; rw [if_pos ((checkHole_iff h).2 hg)]
  rw [hvol] at HVO
  have hV := (hg.ups h.length (Nat.le_refl _)).2.2.2.2
  have hV1 : 1 ≤ sizeUp h h.length := by have := hg.pos; omega
  have hV2 := hV.2
  obtain ⟨AH, cH, rfl, _⟩ := hv
  clear hl hin hvol hV hg
  unfold maxLen at hm
  generalize kitPick l = f at *
  generalize l.length = n at *
  generalize sizeUp h h.length = V at *
  generalize h.length = nh at *
  obtain ⟨i0, hi0, hz0, hz1, hz2⟩ := info_parts info_Slug
  have hB0 : Below w.heap.size w (w.alloc (.cells #[.slice AH nh cH] 25)) := (by repeat (first | exact Below.refl _ _ | assumption | refine Below.setCell ?_ (by first | (simp; done) | (simp; omega)) _ | refine belowDrewN ?_ _ | refine Below.drew ?_ | refine Below.alloc ?_ (by first | (simp; done) | (simp; omega)) _))
  have HB0 := Lib.hid hB0
  clear hB0
  go_enter Try.func19, Try.ntmps19
  go_wp2_with fail
  refine (HVO.out _ HB0.out).mono ?_
  rintro e w1 ⟨rfl, hb1⟩
  have BW1 := Lib.hid (HB0.out.trans (hb1.mono HB0.out.size))
  clear hb1 HVO
  go_wp2_with fail
  go_loopw [5, 6, 7] (fun s5 s6 s7 wr => ∃ (k : Nat) (R : Int) (ks : List Slug) (v : Value), k ≤ n ∧ k ≤ 5 ∧ s7 = .int .i64 k ∧ s5 = .int .i64 R ∧ v = s6 ∧ Hid (ks.length = k ∧ ColSo V R ks) ∧ Hid (wr.ownsRow w1.heap.size 39 2 v k (ks.flatMap slugC)) ∧ Hid (Below w.heap.size w wr) ∧ Hid (w1.heap.size ≤ wr.heap.size)) (fun _ _ s7 _ => 6 - (intOf s7).toNat)
  case atStart => exact ⟨0, V, [], .slice none 0 0, Nat.zero_le _, by omega, rfl, rfl, rfl, ⟨rfl, ColSo.nil hV1⟩, World.ownsRow_nil _ _ _ _, BW1, Nat.le_refl _⟩
  case round =>
    obtain ⟨k, R, ks, v, hk, hk5, rfl, rfl, rfl, hks, hown, BW, hsz⟩ := hrel
    have hR1 := hks.out.2.left
    have hR2 : R ≤ V := by have := hks.out.2.sum; have := hks.out.2.tot; omega
    by_cases hgo : k < n ∧ k < 5 ∧ 1 < R
    · obtain ⟨g1, g2, g3⟩ := hgo
      have t1 : decide (k < n) = true := decide_eq_true g1
      have t2 : decide ((k : Int) < 5) = true := decide_eq_true (by omega)
      have t2' : decide (k < 5) = true := decide_eq_true g2
      have t3 : decide (1 < R) = true := decide_eq_true g3
      obtain ⟨r1, r2⟩ := hb.out k
      go_wp2_with fail
      refine (HP.out wr BW.out k (by omega)).mono ?_
      rintro e w' ⟨rfl, rfl⟩
      generalize f k = nn at *
      have m0 := Int.emod_nonneg (nn / 13) (show R - 1 ≠ 0 by omega)
      have m1 := Int.emod_lt_of_pos (nn / 13) (show 0 < R - 1 by omega)
      have hz9 : (R - 1 == 0) = false := beq_eq_false_iff_ne.2 (by omega)
      have d0 : 0 ≤ nn / 13 := by omega
      have hwm : IntKind.i64.wrap ((nn / 13).tmod (R - 1)) = nn / 13 % (R - 1) := by rw [Int.tmod_eq_emod_of_nonneg d0]; exact IntWalk.i64_in _ (by omega)
      have HSN := Lib.hid (fun hw0 hw1 => hks.out.2.snoc (w := 9000 + nn % 13001) (v := 1 + nn / 13 % (R - 1)) hw0 hw1 (by omega) (by omega))
      have hn0 : 0 ≤ nn % 13001 := by omega
      have hn1 : nn % 13001 ≤ 13000 := by omega
      go_wp2_with (at_builtin; refine wpList_append_own _ rfl _ _ 30 rfl w1.heap.size 39 i0 (.agg #[.int .i64 0, .int .i64 0]) 2 16 Try.underlying30 hi0 hz0 hz1 hz2 rfl (by decide) v k (ks.flatMap slugC) rfl (hown.out.alloc _) ⟨wr.heap.size, 0, none⟩ 1 1 (slugC ⟨9000 + nn % 13001, 1 + nn / 13 % (R - 1)⟩) rfl rfl ?_ ?_ ?_ ?_ ?_ ?_)
      · exact cells_new wr (slugC ⟨9000 + nn % 13001, 1 + nn / 13 % (R - 1)⟩) 39
      · simp [slugC, Value.oneCell']
      · unfold maxLen; omega
      · omega
      · have := hsz.out; simp; omega
      intro v' w2 hown1 hg1 _
      have hB1 := Lib.hid (below_grown ((Below.refl w1.heap.size wr).alloc hsz.out _) (hown.out.alloc _) hg1 (by have := hsz.out; simp; omega))
      have HO1 := Lib.hid hown1
      clear hown1 hg1
      have BW2 := Lib.hid (BW.out.trans (hB1.out.mono BW1.out.size))
      go_wp2_with fail
      go_roundw
      case rel =>
        refine ⟨k + 1, R - (1 + nn / 13 % (R - 1)), ks ++ [⟨9000 + nn % 13001, 1 + nn / 13 % (R - 1)⟩], v', g1, by omega, by go_num, rfl, rfl, ⟨by rw [List.length_append, hks.out.1]; rfl, HSN.out (by omega) (by omega)⟩, ?_, BW2, ?_⟩
        · have := HO1.out
          unfold Hid
          rw [List.flatMap_append]
          simpa using this
        · have h1 := hB1.out.size
          have h2 := hsz.out
          unfold Hid
          omega
      case measure => simp [intOf]; omega
    · have HP5 := Lib.hid (HP.out wr BW.out 5 (by omega))
      obtain ⟨r1, r2⟩ := hb.out 5
      have HDN := Lib.hid (fun w hw0 hw1 => hks.out.2.done (w := w) (by rw [hks.out.1]; omega) hw0 hw1)
      generalize f 5 = nn at *
      have hn0 : 0 ≤ nn / 17 % 13001 := by omega
      have hn1 : nn / 17 % 13001 ≤ 13000 := by omega
      by_cases g1 : k < n
      · have t1 : decide (k < n) = true := decide_eq_true g1
        by_cases g2 : k < 5
        · have g3 : ¬ 1 < R := fun h => hgo ⟨g1, g2, h⟩
          have t2 : decide ((k : Int) < 5) = true := decide_eq_true (by omega)
          have t2' : decide (k < 5) = true := decide_eq_true g2
          have t3 : decide (1 < R) = false := decide_eq_false g3
          clear hgo g3
          go_wp2_with fail
          refine HP5.out.mono ?_
          rintro e w' ⟨rfl, rfl⟩
          go_wp2_with (at_builtin; refine wpList_append_own _ rfl _ _ 30 rfl w1.heap.size 39 i0 (.agg #[.int .i64 0, .int .i64 0]) 2 16 Try.underlying30 hi0 hz0 hz1 hz2 rfl (by decide) v k (ks.flatMap slugC) rfl (hown.out.alloc _) ⟨wr.heap.size, 0, none⟩ 1 1 (slugC ⟨9000 + nn / 17 % 13001, R⟩) rfl rfl ?_ ?_ ?_ ?_ ?_ ?_)
          · exact cells_new wr (slugC ⟨9000 + nn / 17 % 13001, R⟩) 39
          · simp [slugC, Value.oneCell']
          · unfold maxLen; omega
          · omega
          · have := hsz.out; simp; omega
          intro v' w2 hown1 hg1 _
          have hB1 := Lib.hid (below_grown ((Below.refl w1.heap.size wr).alloc hsz.out _) (hown.out.alloc _) hg1 (by have := hsz.out; simp; omega))
          have HO1 := Lib.hid hown1
          clear hown1 hg1
          have BW2 := Lib.hid (BW.out.trans (hB1.out.mono BW1.out.size))
          have FIN := Lib.hid (colum_fin (HDN.out (9000 + nn / 17 % 13001) (by omega) (by omega)) hks.out.1 HO1.out (by have := BW1.out.size; omega))
          go_wp2_with fail
          go_ret
          exact ⟨FIN.out, BW2.out⟩
        · have t2 : decide ((k : Int) < 5) = false := decide_eq_false (by omega)
          have t2' : decide (k < 5) = false := decide_eq_false g2
          clear hgo
          go_wp2_with fail
          refine HP5.out.mono ?_
          rintro e w' ⟨rfl, rfl⟩
          go_wp2_with (at_builtin; refine wpList_append_own _ rfl _ _ 30 rfl w1.heap.size 39 i0 (.agg #[.int .i64 0, .int .i64 0]) 2 16 Try.underlying30 hi0 hz0 hz1 hz2 rfl (by decide) v k (ks.flatMap slugC) rfl (hown.out.alloc _) ⟨wr.heap.size, 0, none⟩ 1 1 (slugC ⟨9000 + nn / 17 % 13001, R⟩) rfl rfl ?_ ?_ ?_ ?_ ?_ ?_)
          · exact cells_new wr (slugC ⟨9000 + nn / 17 % 13001, R⟩) 39
          · simp [slugC, Value.oneCell']
          · unfold maxLen; omega
          · omega
          · have := hsz.out; simp; omega
          intro v' w2 hown1 hg1 _
          have hB1 := Lib.hid (below_grown ((Below.refl w1.heap.size wr).alloc hsz.out _) (hown.out.alloc _) hg1 (by have := hsz.out; simp; omega))
          have HO1 := Lib.hid hown1
          clear hown1 hg1
          have BW2 := Lib.hid (BW.out.trans (hB1.out.mono BW1.out.size))
          have FIN := Lib.hid (colum_fin (HDN.out (9000 + nn / 17 % 13001) (by omega) (by omega)) hks.out.1 HO1.out (by have := BW1.out.size; omega))
          go_wp2_with fail
          go_ret
          exact ⟨FIN.out, BW2.out⟩
      · have t1 : decide (k < n) = false := decide_eq_false g1
        clear hgo
        go_wp2_with fail
        refine HP5.out.mono ?_
        rintro e w' ⟨rfl, rfl⟩
        go_wp2_with (at_builtin; refine wpList_append_own _ rfl _ _ 30 rfl w1.heap.size 39 i0 (.agg #[.int .i64 0, .int .i64 0]) 2 16 Try.underlying30 hi0 hz0 hz1 hz2 rfl (by decide) v k (ks.flatMap slugC) rfl (hown.out.alloc _) ⟨wr.heap.size, 0, none⟩ 1 1 (slugC ⟨9000 + nn / 17 % 13001, R⟩) rfl rfl ?_ ?_ ?_ ?_ ?_ ?_)
        · exact cells_new wr (slugC ⟨9000 + nn / 17 % 13001, R⟩) 39
        · simp [slugC, Value.oneCell']
        · unfold maxLen; omega
        · omega
        · have := hsz.out; simp; omega
        intro v' w2 hown1 hg1 _
        have hB1 := Lib.hid (below_grown ((Below.refl w1.heap.size wr).alloc hsz.out _) (hown.out.alloc _) hg1 (by have := hsz.out; simp; omega))
        have HO1 := Lib.hid hown1
        clear hown1 hg1
        have BW2 := Lib.hid (BW.out.trans (hB1.out.mono BW1.out.size))
        have FIN := Lib.hid (colum_fin (HDN.out (9000 + nn / 17 % 13001) (by omega) (by omega)) hks.out.1 HO1.out (by have := BW1.out.size; omega))
        go_wp2_with fail
        go_ret
        exact ⟨FIN.out, BW2.out⟩

end Go.Proofs.Ytgcfplkfclapiaa
