/- Walks of the reference of layer 2: the value of a line at a place. -/
import Derived.Test.YtannipfohicpmaaRef02b
namespace Go.Proofs.Ytannipfohicpmaa
open Go.RowKit Go.Shelf Mpl

set_option maxHeartbeats 8000000 in
set_option maxRecDepth 100000 in
theorem ref02_value_walk (ks : List Knot) (b off c n m : Nat) (x A0 A1 B0 B1 : Int) (w : World) (hb : b < w.heap.size) (hn : n ≤ 24) (hm0 : 0 < m) (hmn : m < n)
    (hk : ∀ i, i < n → w.cell? ⟨b, off + i * 2, none⟩ = some (.int .i64 (kn ks i).At) ∧ w.cell? ⟨b, off + i * 2 + 1, none⟩ = some (.int .i64 (kn ks i).V))
    (hf : (kn ks 0).At < x) (hl : x < (kn ks (n - 1)).At) (hlt : ∀ i, i < m → (kn ks i).At < x) (hge : x ≤ (kn ks m).At)
    (eA : kn ks (m - 1) = ⟨A0, A1⟩) (eB : kn ks m = ⟨B0, B1⟩)
    (h1 : A0 < B0) (h2 : -4611686018427387904 ≤ (B1 - A1) * (x - A0)) (h3 : (B1 - A1) * (x - A0) ≤ 4611686018427387904) (h4 : 0 ≤ A1) (h5 : A1 ≤ 68719476736) (h6 : 0 ≤ B1) (h7 : B1 ≤ 68719476736) (h8 : 0 ≤ A0) (h9 : B0 ≤ 1099511627776) (h10 : A0 < x) (h11 : x ≤ B0) :
    Calls Try.prog 104 #[.agg #[.slice (some ⟨b, off, none⟩) n c], .int .i64 x] w fun e w' => e = .returned (.agg #[.int .i64 (A1 + (B1 - A1) * (x - A0) / (B0 - A0)), .int .i64 (A1 - (-((B1 - A1) * (x - A0))) / (B0 - A0))]) ∧ Below w.heap.size w w' := by
  have HK := Lib.hid hk
  have HLT := Lib.hid hlt
  have HGE := Lib.hid hge
  obtain ⟨a0, a1⟩ := hk 0 (by omega)
  obtain ⟨l0, l1⟩ := hk (n - 1) (by omega)
  obtain ⟨p0, p1⟩ := hk (m - 1) (by omega)
  obtain ⟨r0, r1⟩ := hk m (by omega)
  rw [eA] at p0 p1
  rw [eB] at r0 r1
  dsimp only at p0 p1 r0 r1
  simp only [Nat.zero_mul, Nat.add_zero] at a0 a1
  clear hk hlt hge eA eB
  have hroom := part_room (B0 - A0) (B1 - A1) (x - A0) (by omega) (by omega) (by omega) (by omega)
  obtain ⟨hr1, hr2⟩ := hroom
  have hq1 : -68719476736 ≤ (B1 - A1) * (x - A0) / (B0 - A0) := Int.le_ediv_of_mul_le (by omega) hr1
  have hq2 : (B1 - A1) * (x - A0) / (B0 - A0) ≤ 68719476736 := Int.ediv_le_of_le_mul (by omega) hr2
  have hq3 : -68719476736 ≤ (-((B1 - A1) * (x - A0))) / (B0 - A0) := Int.le_ediv_of_mul_le (by omega) (by omega)
  have hq4 : (-((B1 - A1) * (x - A0))) / (B0 - A0) ≤ 68719476736 := Int.ediv_le_of_le_mul (by omega) (by omega)
  clear hr1 hr2
  have HALL := Lib.hid (show (A0 < B0 ∧ (-4611686018427387904 ≤ (B1 - A1) * (x - A0)) ∧ (B1 - A1) * (x - A0) ≤ 4611686018427387904) ∧ (0 ≤ A1 ∧ A1 ≤ 68719476736 ∧ 0 ≤ B1 ∧ B1 ≤ 68719476736 ∧ 0 ≤ A0 ∧ B0 ≤ 1099511627776 ∧ A0 < x ∧ x ≤ B0) ∧ (-68719476736 ≤ (B1 - A1) * (x - A0) / (B0 - A0) ∧ (B1 - A1) * (x - A0) / (B0 - A0) ≤ 68719476736 ∧ -68719476736 ≤ (-((B1 - A1) * (x - A0))) / (B0 - A0) ∧ (-((B1 - A1) * (x - A0))) / (B0 - A0) ≤ 68719476736) from ⟨⟨h1, h2, h3⟩, ⟨h4, h5, h6, h7, h8, h9, h10, h11⟩, hq1, hq2, hq3, hq4⟩)
  clear h1 h2 h3 h4 h5 h6 h7 h8 h9 h10 h11 hq1 hq2 hq3 hq4
  obtain ⟨wv, hwv⟩ : ∃ wv, ((w.alloc (.cells #[.slice (some ⟨b, off, none⟩) n c] 24)).alloc (.cells #[.int .i64 0, .int .i64 0] 66)) = wv := ⟨_, rfl⟩
  have b0 : Box wv w.heap.size 24 #[.slice (some ⟨b, off, none⟩) n c] := by rw [← hwv]; exact (Box.new w _ _ rfl).alloc _
  have b1 : Box wv (w.heap.size + 1) 66 #[.int .i64 0, .int .i64 0] := by rw [← hwv]; exact Box.new _ _ _ (by simp)
  have hB0 : Below w.heap.size w wv := by rw [← hwv]; exact (by repeat (first | exact Below.refl _ _ | assumption | refine Below.setCell ?_ (by first | (simp; done) | (simp; omega)) _ | refine belowDrewN ?_ _ | refine Below.drew ?_ | refine Below.alloc ?_ (by first | (simp; done) | (simp; omega)) _))
  have HWV := Lib.hid hwv
  clear hwv
  have HB0 := Lib.hid b0
  have HB1 := Lib.hid b1
  have HBB0 := Lib.hid hB0
  have q0 := b0.cell 0
  simp only [List.getElem?_toArray, List.getElem?_cons_zero] at q0
  have e0 := oldCell hB0 hb a0
  have e1 := oldCell hB0 hb a1
  have e2 := oldCell hB0 hb l0
  have e3 := oldCell hB0 hb l1
  have P0 := Lib.hid p0
  have P1 := Lib.hid p1
  have R0 := Lib.hid r0
  have R1 := Lib.hid r1
  have hbw : b < wv.heap.size := by have := hB0.size; omega
  have hb0 := b0.lt
  have hb1 := b1.lt
  clear a0 a1 l0 l1 p0 p1 r0 r1
  have d1 : decide (x ≤ (kn ks 0).At) = false := decide_eq_false (by omega)
  have d2 : decide ((kn ks (n - 1)).At ≤ x) = false := decide_eq_false (by omega)
  have hn0 : 0 < n := by omega
  clear hf hl b0 b1 hB0
  generalize (kn ks 0).At = f0 at *
  generalize (kn ks 0).V = f1 at *
  generalize (kn ks (n - 1)).At = g0 at *
  generalize (kn ks (n - 1)).V = g1 at *
  have z1 : IntKind.i64.wrap ((n : Int) - 1) = (n : Int) - 1 := IntWalk.i64_in _ (by omega)
  have z2 : (0 : Int) ≤ (n : Int) - 1 := by omega
  have z3 : ((n : Int) - 1).toNat = n - 1 := by omega
  have z4 : (n : Int) - 1 < (n : Int) := by omega
  have z5 : (1 : Int) ≤ (n : Int) := by omega
  have z6 : 1 ≤ n := by omega
  go_enter Try.func104, Try.ntmps104
  go_wp2_with fail
  rw [HWV.out]
  go_region_held3 (fun w' => w'.cell? ⟨w.heap.size, 0, none⟩ = some (.slice (some ⟨b, off, none⟩) n c) ∧ w'.cell? ⟨b, off, none⟩ = some (.int .i64 f0) ∧ w'.cell? ⟨b, off + 1, none⟩ = some (.int .i64 f1) ∧ w'.cell? ⟨b, off + (n - 1) * 2, none⟩ = some (.int .i64 g0) ∧ w'.cell? ⟨b, off + (n - 1) * 2 + 1, none⟩ = some (.int .i64 g1)) (go_keep) (first | fail)
  all_goals
    go_wp2_with fail
    clear z1 z2 z3 z4 z5 z6 e0 e1 e2 e3 d1 d2 q0 hb0 hb1 hbw
    generalize hwz : World.drew _ = wz
    have hBz : Below wv.heap.size wv wz := by rw [← hwz]; exact (by repeat (first | exact Below.refl _ _ | assumption | refine Below.setCell ?_ (by first | (simp; done) | (simp; omega)) _ | refine belowDrewN ?_ _ | refine Below.drew ?_ | refine Below.alloc ?_ (by first | (simp; done) | (simp; omega)) _))
    clear hwz
    have q0 := (HB0.out.under hBz).cell 0
    simp only [List.getElem?_toArray, List.getElem?_cons_zero] at q0
    have c1 := HB1.out.under hBz
    have hBB := HBB0.out.trans (hBz.mono HBB0.out.size)
    have hbw : b < wz.heap.size := by have := hBB.size; omega
    have hb0 := (HB0.out.under hBz).lt
    have hb1 := c1.lt
    go_loop [7] (fun s7 => ∃ i : Nat, i < m ∧ s7 = .int .i64 i) (fun s7 => m - (intOf s7).toNat)
    case atStart => exact ⟨0, hm0, rfl⟩
    case round =>
      obtain ⟨i, hi, rfl⟩ := hrel
      have c0 := oldCell hBB hb (HK.out (i + 1) (by omega)).1
      by_cases hlt2 : i + 1 < m
      · have dd : decide ((kn ks (i + 1)).At < x) = true := decide_eq_true (HLT.out (i + 1) hlt2)
        go_wp2_with fail
        go_round
        case rel => exact ⟨i + 1, hlt2, by go_num⟩
        case measure => simp [intOf]; omega
      · obtain rfl : m = i + 1 := by omega
        have dd : decide ((kn ks (i + 1)).At < x) = false := decide_eq_false (by have := HGE.out; omega)
        have p0 := oldCell hBB hb P0.out
        have p1 := oldCell hBB hb P1.out
        have r0 := oldCell hBB hb R0.out
        have r1 := oldCell hBB hb R1.out
        rw [Nat.add_sub_cancel] at p0 p1
        go_wp2_with fail
        clear c0 dd
        have HBB := Lib.hid hBB
        have HC1 := Lib.hid c1
        have him : i < n := by omega
        clear hBB c1 hBz hm0 hi hlt2
        have z1 : IntKind.i64.wrap ((i : Int) + 1) = (i : Int) + 1 := IntWalk.i64_in _ (by omega)
        have z2 : (0 : Int) ≤ (i : Int) + 1 := by omega
        have z3 : ((i : Int) + 1).toNat = i + 1 := by omega
        have z4 : (i : Int) + 1 < (n : Int) := by omega
        have z5 : (i : Int) < (n : Int) := by omega
        go_region_held3 (fun w' => w'.cell? ⟨w.heap.size, 0, none⟩ = some (.slice (some ⟨b, off, none⟩) n c) ∧ w'.cell? ⟨b, off + i * 2, none⟩ = some (.int .i64 A0) ∧ w'.cell? ⟨b, off + i * 2 + 1, none⟩ = some (.int .i64 A1) ∧ w'.cell? ⟨b, off + (i + 1) * 2, none⟩ = some (.int .i64 B0) ∧ w'.cell? ⟨b, off + (i + 1) * 2 + 1, none⟩ = some (.int .i64 B1)) (go_keep) (first | fail)
        all_goals
          clear z1 z2 z3 z4 z5
          obtain ⟨⟨h1, h2, h3⟩, ⟨h4, h5, h6, h7, h8, h9, h10, h11⟩, hq1, hq2, hq3, hq4⟩ := HALL.out
          go_wp2_with fail
          go_quiet (fail)
          go_wp2_with fail
          generalize hwy : World.drewN _ nq = wy
          have hBy : Below wz.heap.size wz wy := by rw [← hwy]; exact (by repeat (first | exact Below.refl _ _ | assumption | refine Below.setCell ?_ (by first | (simp; done) | (simp; omega)) _ | refine belowDrewN ?_ _ | refine Below.drew ?_ | refine Below.alloc ?_ (by first | (simp; done) | (simp; omega)) _))
          first
            | (have u0 : wy.cell? ⟨wz.heap.size, 1, none⟩ = some (.int .i64 A1) := by
                rw [← hwy]
                exact (((Box.new wz 71 #[.int .i64 A0, .int .i64 A1] rfl).alloc _).drew.drewN _).cell 1)
            | (have u0 : wy.cell? ⟨wz.heap.size + 1, 1, none⟩ = some (.int .i64 A1) := by
                rw [← hwy]
                exact ((Box.new (wz.alloc _) 71 #[.int .i64 A0, .int .i64 A1] (by simp)).drew.drewN _).cell 1)
          clear hwy
          have c1 := HC1.out.under hBy
          have u1 := c1.cell 0
          have u2 := c1.cell 1
          have u3 := c1.frozen 0
          have u4 := c1.frozen 1
          have hBW := Lib.hid (HBB.out.trans (hBy.mono HBB.out.size))
          simp only [List.getElem?_toArray, List.getElem?_cons_zero, List.getElem?_cons_succ] at u1 u2
          clear hBy c1
          have v1 : IntKind.i64.wrap (A1 + (B1 - A1) * (x - A0) / (B0 - A0)) = A1 + (B1 - A1) * (x - A0) / (B0 - A0) := IntWalk.i64_in _ (by omega)
          have v2 : IntKind.i64.wrap (-((B1 - A1) * (x - A0))) = -((B1 - A1) * (x - A0)) := IntWalk.i64_in _ (by omega)
          have v3 : IntKind.i64.wrap (A1 - -((B1 - A1) * (x - A0)) / (B0 - A0)) = A1 - -((B1 - A1) * (x - A0)) / (B0 - A0) := IntWalk.i64_in _ (by omega)
          have k1 := fun W => ref02_floor ((B1 - A1) * (x - A0)) (B0 - A0) W (by omega) h2 h3 (by omega)
          have k2 := fun W => ref02_floor (-((B1 - A1) * (x - A0))) (B0 - A0) W (by omega) (by omega) (by omega) (by omega)
          have K1 := Lib.hid k1
          have K2 := Lib.hid k2
          clear k1 k2 h1 h2 h3 h4 h5 h6 h7 h8 h9 h10 h11 hq1 hq2 hq3 hq4
          refine wp_region_still_tail 14 mixed (by kernel_rfl) ?_
          simp only [List.take_succ_cons, List.take_zero, List.drop_succ_cons, List.drop_zero]
          repeat still_step
          still_call (K1.out _)
          repeat still_step
          still_call (K2.out _)
          repeat still_step
          refine wpStill_nil ?_
          change wpList _ _ _ _ _ wy.drew
          go_wp2_with fail
          refine bodyPost_ret ?_ rfl ⟨rfl, ?_⟩
          · simp [results, Try.results104, go_sem, u1, u2]
          · exact (hBW.out.drew.setCell (by simp) _).setCell (by simp) _

end Go.Proofs.Ytannipfohicpmaa
