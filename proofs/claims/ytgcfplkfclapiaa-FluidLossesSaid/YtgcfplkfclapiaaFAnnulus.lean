/- Walks of moonpoolkit: a hole made of numbers. -/
import Derived.Test.YtgcfplkfclapiaaKit
import Derived.Test.YtgcfplkfclapiaaFPlaces
import Derived.Deep.RegionHeld3
namespace Mpl
structure SegMade (s : Seg) : Prop where
  l0 : 1 ≤ s.Long
  l1 : s.Long ≤ 100000
  r0 : 0 ≤ s.Rise
  r1 : s.Rise ≤ s.Long
  a0 : 1 ≤ s.Area
  a1 : s.Area ≤ 1500
  g0 : 1 ≤ s.Gap
  g1 : s.Gap ≤ 200
theorem SegMade.good {s : Seg} (h : SegMade s) : GoodSeg s := ⟨h.l0, h.r0, h.r1, h.a0, by have := h.a1; omega, h.g0, h.g1⟩
/-- a hole made of numbers -/
structure Annular (h : List Seg) : Prop where
  pos : 0 < h.length
  few : h.length ≤ 5
  seg : ∀ s ∈ h, SegMade s
theorem sg_mem {h : List Seg} {i : Nat} (hi : i < h.length) : sg h i ∈ h := by simp [sg, hi]
theorem Annular.at {h : List Seg} (a : Annular h) {i : Nat} (hi : i < h.length) : SegMade (sg h i) := a.seg _ (sg_mem hi)
theorem long_le (f : Nat → Int) (M : Int) (n : Nat) (h : ∀ k, k < n → f k ≤ M) : sumFrom f 0 n ≤ n * M := by
  induction n with
  | zero => simp [sumFrom]
  | succ n ih =>
    rw [up_step]
    have := ih fun k hk => h k (by omega)
    have := h n (by omega)
    rw [show ((n + 1 : Nat) : Int) = (n : Int) + 1 by omega, Int.add_mul]
    omega
theorem Annular.good {h : List Seg} (a : Annular h) : GoodHole h := by
  refine ⟨a.pos, by have := a.few; omega, fun i hi => (a.at hi).good, ?_⟩
  have := long_le (longAt h) 100000 h.length fun k hk => (a.at hk).l1
  have := a.few
  show sumFrom (longAt h) 0 h.length ≤ _
  omega
theorem Annular.one_le {h : List Seg} (a : Annular h) : 1 ≤ sizeUp h h.length := by
  have := (a.good.ups h.length (Nat.le_refl _)).2.2.2.2.1
  have := a.pos
  omega
end Mpl
namespace Go.Proofs.Ytgcfplkfclapiaa
open Go.RowKit Go.Shelf Mpl

theorem Segs.own {w : World} {base : Nat} {e : TypeId} {v : Value} {n : Nat} {l : List Seg} (h : w.ownsRow base e 4 v n (l.flatMap segC)) :
    ∃ A c, v = .slice A l.length c ∧ l.length ≤ c ∧ Segs w w.heap.size A l := by
  have hn : n = l.length := by have := h.1; rw [flatC_len segC 4 (fun _ => rfl)] at this; omega
  subst hn
  obtain ⟨A, c, rfl, hnc, hc⟩ := own_form h
  refine ⟨A, c, rfl, hnc, fun h0 => ?_⟩
  obtain ⟨g, rfl, _, hlt, hcell⟩ := hc h0
  refine ⟨g, 0, rfl, hlt, fun i hi => ?_⟩
  have ht : sg l i = l[i] := by simp [sg, hi]
  have hg := fun j hj => flat_get segC 4 (fun _ => rfl) l i j hi hj
  rw [ht]
  refine ⟨?_, ?_, ?_, ?_⟩
  · have := hcell (i * 4 + 0) _ ((hg 0 (by omega)).trans rfl); simpa using this
  · have := hcell (i * 4 + 1) _ ((hg 1 (by omega)).trans rfl); simpa using this
  · have := hcell (i * 4 + 2) _ ((hg 2 (by omega)).trans rfl); simpa using this
  · have := hcell (i * 4 + 3) _ ((hg 3 (by omega)).trans rfl); simpa using this
theorem info_Seg : (Try.prog.info? 29).map (fun i => (i.zero, i.size, i.bytes)) = some (some (.agg #[.int .i64 0, .int .i64 0, .int .i64 0, .int .i64 0]), 4, 32) := by kernel_rfl

def madeSeg (n : Int) : Seg := ⟨1 + n % 100000, n / 11 % (1 + n % 100000 + 1), 1 + n / 3 % 1500, 1 + n / 7 % 200⟩
theorem madeSeg_made (n : Int) (_h : 0 ≤ n) : SegMade (madeSeg n) := by
  unfold madeSeg
  refine ⟨?_, ?_, ?_, ?_, ?_, ?_, ?_, ?_⟩ <;> simp only <;> try omega
  have h1 := Int.emod_nonneg (n / 11) (show 1 + n % 100000 + 1 ≠ 0 by omega)
  exact h1
  have h2 := Int.emod_lt_of_pos (n / 11) (show 0 < 1 + n % 100000 + 1 by omega)
  omega

theorem load_one {w : World} {g t : Nat} {v : Value} (b : Box w g t #[v]) : (loadVar 25 ⟨g, 0, none⟩).run Try.prog w = .ok (.agg #[v]) w := by
  have q0 := b.cell 0
  simp only [List.getElem?_toArray, List.getElem?_cons_zero] at q0
  simp [go_sem, q0]

set_option maxHeartbeats 4000000 in
set_option maxRecDepth 100000 in
theorem kit_Annulus (l : List Int) (A : Option Addr) (c : Nat) (w : World) (hl : Ints w w.heap.size A l) (hin : IntsIn l) (hm : l.length ≤ maxLen) :
    Calls Try.prog 18 #[.slice A l.length c] w fun e w' => (∃ A' c' h, e = .returned (.agg #[.slice A' h.length c']) ∧ w'.ownsRow w.heap.size 29 4 (.slice A' h.length c') h.length (h.flatMap segC) ∧ Annular h) ∧ Below w.heap.size w w' := by
  have HP := Lib.hid (fun W (hW : Below w.heap.size w W) k (hk : k ≤ 1000) => kit_pick l A c k W (hl.up hW hW.size) hin hk hm)
  have hb := Lib.hid (kitPick_bounds l)
  clear hl hin
  unfold maxLen at hm
  generalize kitPick l = f at *
  generalize l.length = n at *
  obtain ⟨i0, hi0, hz0, hz1, hz2⟩ := info_parts info_Seg
  obtain ⟨w0, hw0⟩ : ∃ w0, ((w.alloc (.cells #[.slice none 0 0] 25)).alloc (.cells #[.slice none 0 0] 25)) = w0 := ⟨_, rfl⟩
  have b0 : Box w0 w.heap.size 25 #[.slice none 0 0] := by rw [← hw0]; exact (Box.new w _ _ rfl).alloc _
  have b1 : Box w0 (w.heap.size + 1) 25 #[.slice none 0 0] := by rw [← hw0]; exact Box.new _ _ _ (by simp)
  have hB0 : Below w.heap.size w w0 := by rw [← hw0]; exact (by repeat (first | exact Below.refl _ _ | assumption | refine Below.setCell ?_ (by first | (simp; done) | (simp; omega)) _ | refine belowDrewN ?_ _ | refine Below.drew ?_ | refine Below.alloc ?_ (by first | (simp; done) | (simp; omega)) _))
  have hs0 : w0.heap.size = w.heap.size + 1 + 1 := by rw [← hw0]; simp
  have HS0 := Lib.hid hs0
  have HW0 := Lib.hid hw0
  clear hw0 hs0
  obtain ⟨mn, hmn⟩ : ∃ c : Nat, c = min n 5 := ⟨_, rfl⟩
  obtain ⟨cnt, hcnt⟩ : ∃ c : Nat, c = max 1 mn := ⟨_, rfl⟩
  have HE1 := Lib.hid (show (if (5 : Int) < (n : Int) then (5 : Int) else (n : Int)) = (mn : Int) by split <;> omega)
  have HE2 := Lib.hid (show (if (1 : Int) < (mn : Int) then (mn : Int) else (1 : Int)) = (cnt : Int) by split <;> omega)
  have hc1 : 1 ≤ cnt := by omega
  have hc3 : cnt ≤ 5 := by omega
  clear hcnt hmn
  go_enter Try.func18, Try.ntmps18
  go_wp2_with fail
  rw [HW0.out]
  go_loopw [4] (fun s4 wr => ∃ (k : Nat) (ks : List Seg) (v : Value), k ≤ cnt ∧ s4 = .int .i64 k ∧ Hid (ks.length = k ∧ ∀ s ∈ ks, SegMade s) ∧ Hid (wr.ownsRow w0.heap.size 29 4 v k (ks.flatMap segC)) ∧ Hid (Box wr (w.heap.size + 1) 25 #[v] ∧ Box wr w.heap.size 25 #[.slice none 0 0]) ∧ Hid (Below w.heap.size w wr) ∧ Hid (w0.heap.size ≤ wr.heap.size)) (fun s4 _ => 6 - (intOf s4).toNat)
  case atStart => exact ⟨0, [], .slice none 0 0, Nat.zero_le _, rfl, ⟨rfl, fun s hs => absurd hs (by simp)⟩, World.ownsRow_nil _ _ _ _, ⟨b1, b0⟩, hB0, Nat.le_refl _⟩
  case round =>
    obtain ⟨k, ks, v, hk, rfl, hks, hown, hbx, BW, hsz⟩ := hrel
    have e1 := HE1.out
    have e2 := HE2.out
    by_cases hlt : k < cnt
    · obtain ⟨r1, r2⟩ := hb.out k
      have g0 := hbx.out.1.cell 0
      have g1 := hbx.out.1.frozen 0
      simp only [List.getElem?_toArray, List.getElem?_cons_zero] at g0
      have hblt := hbx.out.1.lt
      go_wp2_with fail
      refine (HP.out wr BW.out k (by omega)).mono ?_
      rintro e w' ⟨rfl, rfl⟩
      generalize f k = nn at *
      have y1 : IntKind.i64.wrap (nn.tmod 100000) = nn % 100000 := by rw [Int.tmod_eq_emod_of_nonneg r1]; exact IntWalk.i64_in _ (by omega)
      have hmade := madeSeg_made nn r1
      have d0 : 0 ≤ nn % 100000 := by omega
      have d1 : nn % 100000 < 100000 := by omega
      have hz9 : (1 + nn % 100000 + 1 == 0) = false := beq_eq_false_iff_ne.2 (by omega)
      have HMD := Lib.hid hmade
      have hv := Lib.hid (show segC (madeSeg nn) = [.int .i64 (1 + nn % 100000), .int .i64 (nn / 11 % (1 + nn % 100000 + 1)), .int .i64 (1 + nn / 3 % 1500), .int .i64 (1 + nn / 7 % 200)] from rfl)
      go_wp2_with (at_builtin; refine wpList_append_own _ rfl _ _ 23 rfl w0.heap.size 29 i0 (.agg #[.int .i64 0, .int .i64 0, .int .i64 0, .int .i64 0]) 4 32 Try.underlying23 hi0 hz0 hz1 hz2 rfl (by decide) v k (ks.flatMap segC) rfl ((hown.out.alloc _).alloc _) ⟨wr.heap.size + 1, 0, none⟩ 1 1 (segC (madeSeg nn)) rfl rfl ?_ ?_ ?_ ?_ ?_ ?_)
      · rw [hv.out]
        have := cells_new (wr.alloc (.cells #[.int .i64 (1 + nn % 100000), .int .i64 (nn / 11 % (1 + nn % 100000 + 1)), .int .i64 (1 + nn / 3 % 1500), .int .i64 (1 + nn / 7 % 200)] 29)) [.int .i64 (1 + nn % 100000), .int .i64 (nn / 11 % (1 + nn % 100000 + 1)), .int .i64 (1 + nn / 3 % 1500), .int .i64 (1 + nn / 7 % 200)] 29
        simpa using this
      · simp [segC, Value.oneCell']
      · unfold maxLen; omega
      · omega
      · have := hsz.out; simp; omega
      intro v' w1 hown1 hg1 _
      have hB1 := Lib.hid (below_grown (((Below.refl w0.heap.size wr).alloc hsz.out _).alloc (by have := hsz.out; simp; omega) _) ((hown.out.alloc _).alloc _) hg1 (by have := hsz.out; simp; omega))
      obtain ⟨A2, c2, rfl, _, _⟩ := own_form hown1
      have HO1 := Lib.hid hown1
      clear hown1 hg1 g0 g1
      have c1 := hbx.out.1.below hB1.out (by rw [HS0.out]; omega)
      have c0 := hbx.out.2.below hB1.out (by rw [HS0.out]; omega)
      have BW1 := BW.out.trans (hB1.out.mono hB0.size)
      have HC1 := Lib.hid c1
      have HC0 := Lib.hid c0
      have g0 := c1.cell 0
      have g1 := c1.frozen 0
      simp only [List.getElem?_toArray, List.getElem?_cons_zero] at g0
      clear c1 c0
      go_wp2_with fail
      go_roundw
      case rel =>
        refine ⟨k + 1, ks ++ [madeSeg nn], .slice A2 (k + 1) c2, hlt, by go_num, ⟨by rw [List.length_append, hks.out.1]; rfl, fun s hs => ?_⟩, ?_, ⟨?_, ?_⟩, ?_, ?_⟩
        · rcases List.mem_append.1 hs with hs | hs
          · exact hks.out.2 s hs
          · rw [List.mem_singleton.1 hs]; exact HMD.out
        · have := own_far (p := ⟨w.heap.size + 1, 0, none⟩) HO1.out (by rw [HS0.out]; simp) (.slice A2 (k + 1) c2)
          unfold Hid
          rw [List.flatMap_append]
          simpa using this
        · have := HC1.out.set_ 0 (.slice A2 (k + 1) c2)
          simpa using this
        · exact HC0.out.far (by simp) _
        · exact BW1.setCell (p := ⟨w.heap.size + 1, 0, none⟩) (by simp) _
        · have h1 := hB1.out.size
          have h2 := hsz.out
          simp [Hid]
          omega
      case measure => simp [intOf]; omega
    · obtain rfl : k = cnt := by omega
      have hkn := own_far (p := ⟨w.heap.size, 0, none⟩) hown.out (by rw [HS0.out]; simp; omega) v
      rw [← hks.out.1] at hkn
      obtain ⟨A', c', rfl, _, _⟩ := own_form hkn
      have HKN := Lib.hid hkn
      clear hkn
      have g0 := hbx.out.1.cell 0
      have g2 := hbx.out.2.cell 0
      have g3 := hbx.out.2.frozen 0
      simp only [List.getElem?_toArray, List.getElem?_cons_zero] at g0 g2
      go_wp2_with fail
      have e0 := hbx.out.2.set_ 0 (.slice A' ks.length c')
      refine bodyPost_ret (results_cell1 rfl _ _ _ w.heap.size (.agg #[.slice A' ks.length c']) rfl (load_one (t := 25) (by simpa using e0))) rfl ?_
      refine ⟨⟨A', c', ks, rfl, ?_, ⟨by rw [hks.out.1]; omega, by rw [hks.out.1]; omega, hks.out.2⟩⟩, BW.out.setCell (p := ⟨w.heap.size, 0, none⟩) (Nat.le_refl _) _⟩
      exact own_le HKN.out (by rw [HS0.out]; omega)

end Go.Proofs.Ytgcfplkfclapiaa
