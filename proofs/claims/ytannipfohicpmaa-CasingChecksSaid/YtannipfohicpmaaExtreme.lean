/- Walks of the package casing: the loads inside and outside. -/
import Derived.Test.YtannipfohicpmaaCheck2
import Derived.Test.YtannipfohicpmaaOwn
namespace Go.Proofs.Ytannipfohicpmaa
open Go.RowKit Go.Shelf Mpl

set_option maxHeartbeats 1000000 in
theorem casing_excess (g cap : Nat) (a0 a1 b0 b1 : Int) (w : World) (_h0 : w.cell? ⟨g, 0, none⟩ = some (.int .i64 a0)) (h1 : w.cell? ⟨g, 1, none⟩ = some (.int .i64 a1)) (h2 : w.cell? ⟨g, 2, none⟩ = some (.int .i64 b0)) (_h3 : w.cell? ⟨g, 3, none⟩ = some (.int .i64 b1))
    (ha : 0 ≤ a1) (ha2 : a1 ≤ 68719476736) (hb : 0 ≤ b0) (hb2 : b0 ≤ 68719476736) :
    Calls Try.prog 46 #[.slice (some ⟨g, 0, none⟩) 2 cap] w fun e w' => e = .returned (.int .i64 (a1 - b0)) ∧ Below w.heap.size w w' := by
  go_enter Try.func46, Try.ntmps46
  go_wp2_with fail
  go_region
  go_wp2_with fail
  go_ret
  exact ⟨rfl, (by repeat (first | exact Below.refl _ _ | assumption | refine Below.setCell ?_ (by first | (simp; done) | (simp; omega)) _ | refine belowDrewN ?_ _ | refine Below.drew ?_ | refine Below.alloc ?_ (by first | (simp; done) | (simp; omega)) _))⟩

/-- the two cells of a range -/
def rgC (r : Rng) : List Value := [.int .i64 r.Lo, .int .i64 r.Hi]

set_option maxHeartbeats 4000000 in
set_option maxRecDepth 100000 in
theorem extreme_at (z : Int) (bl bo b off cap : Nat) (A : Nat → Option Addr) (c : Nat → Nat) (L : Nat → List Knot) (w : World) (hl : LinesAt w w.heap.size b off 2 A c L) (_hbl : bl < w.heap.size) (hbo : bo < w.heap.size)
    (dl : w.cell? ⟨bl, 0, none⟩ = some (.slice (some ⟨b, off, none⟩) 2 cap)) (do_ : w.cell? ⟨bo, 0, none⟩ = some (.func (.func 46) #[] #[])) (h0 : okLine (L 0) = 0) (h1 : okLine (L 1) = 0) :
    Calls Try.prog 84 #[.int .i64 z, .pointer (some ⟨bl, 0, none⟩), .pointer (some ⟨bo, 0, none⟩)] w fun e w' => e = .returned (.int .i64 (excessAt (L 0) (L 1) z)) ∧ Below w.heap.size w w' := by
  have HL := Lib.hid hl
  have HD := Lib.hid do_
  have hA0 := Lib.hid (at_bounds h0 z)
  have hA1 := Lib.hid (at_bounds h1 z)
  clear hl do_ h0 h1
  obtain ⟨i0, hi, hz0, hz1, hz2⟩ := info_parts info_Range
  go_enter Try.func84, Try.ntmps84
  go_wp2_with fail
  go_loopw [5, 10] (fun s5 s10 wr => ∃ k : Nat, k ≤ 2 ∧ s10 = .int .i64 k ∧ Hid (wr.ownsRow w.heap.size 66 2 s5 k ((List.range k).flatMap fun i => rgC (At (L i) z))) ∧ Hid (Below w.heap.size w wr)) (fun _ s10 _ => 2 - (intOf s10).toNat)
  case atStart => exact ⟨0, Nat.zero_le _, rfl, World.ownsRow_nil _ _ _ _, Below.refl _ _⟩
  case round =>
    obtain ⟨k, hk, rfl, hown, BW⟩ := hrel
    have hsz := BW.out.size
    by_cases hlt : k < 2
    · have hl2 := HL.out.below BW.out
      have d0 := hl2.cell k hlt
      have HC := Lib.hid (earth_At (L k) _ z (wr.alloc (.cells #[.slice (A k) (L k).length (c k)] 24)) ((hl2.line hlt).alloc _))
      clear hl2
      generalize (L k).length = n0 at *
      go_wp2_with fail
      refine HC.out.mono ?_
      rintro e w1 ⟨rfl, hb1⟩
      have hBW1 := (BW.out.alloc hsz (.cells #[.slice (A k) n0 (c k)] 24)).trans (hb1.mono (by simp; omega))
      have hown1 := own_under (hown.out.alloc (.cells #[.slice (A k) n0 (c k)] 24)) hb1
      go_wp2_with (at_builtin; refine wpList_append_own _ rfl _ _ 108 rfl w.heap.size 66 i0 (.agg #[.int .i64 0, .int .i64 0]) 2 16 Try.underlying108 hi hz0 hz1 hz2 rfl (by decide) _ _ _ rfl (hown1.alloc _) ⟨w1.heap.size, 0, none⟩ 1 1 (rgC (At (L k) z)) rfl rfl ?c1 ?c2 ?c3 ?c4 ?c5 ?_)
      case c1 => exact cells_new w1 (rgC (At (L k) z)) 66
      case c2 => simp [rgC, Value.oneCell']
      case c3 => unfold maxLen; omega
      case c4 => omega
      case c5 => have := hBW1.size; simp; omega
      intro v' w2 hown2 hg2 _
      have HO2 := Lib.hid hown2
      have HB2 := Lib.hid (below_grown (hBW1.alloc hBW1.size _) (hown1.alloc _) hg2 (by have := hBW1.size; simp; omega))
      clear hown2 hg2 hown1
      go_wp2_with fail
      go_roundw
      case rel => exact ⟨k + 1, by omega, by go_num, by unfold Hid; rw [List.range_succ, List.flatMap_append]; simpa using HO2.out, HB2.out⟩
      case measure => simp [intOf]; omega
    · obtain rfl : k = 2 := by omega
      obtain ⟨g, cap', rfl, _, hg1, hg2, hcell⟩ := own_out hown.out (by omega)
      have e0 := hcell 0 (.int .i64 (At (L 0) z).Lo) rfl
      have e1 := hcell 1 (.int .i64 (At (L 0) z).Hi) rfl
      have e2 := hcell 2 (.int .i64 (At (L 1) z).Lo) rfl
      have e3 := hcell 3 (.int .i64 (At (L 1) z).Hi) rfl
      have hq := oldCell BW.out hbo HD.out
      have HE := Lib.hid (casing_excess g cap' _ _ _ _ wr e0 e1 e2 e3 (by have := hA0.out; omega) hA0.out.2.2 hA1.out.1 (by have := hA1.out; omega))
      clear hcell e0 e1 e2 e3
      go_wp2_with fail
      refine HE.out.mono ?_
      rintro e w1 ⟨rfl, hb1⟩
      go_wp2_with fail
      go_ret
      exact ⟨rfl, BW.out.trans (hb1.mono hsz)⟩

/-- the places behind k whole lines, and i knots of the next one -/
def plk (L : Nat → List Knot) (lo hi : Int) (k i : Nat) : List Int :=
  hi :: (((List.range k).flatMap fun t => ((L t).map Knot.At).filter fun z => within z lo hi) ++ (((L k).take i).map Knot.At).filter fun z => within z lo hi)
theorem plk_next (L : Nat → List Knot) (lo hi : Int) (k : Nat) : plk L lo hi k (L k).length = plk L lo hi (k + 1) 0 := by
  simp [plk, List.range_succ, List.flatMap_append]
theorem plk_step (L : Nat → List Knot) (lo hi : Int) (k i : Nat) (h : i < (L k).length) : plk L lo hi k (i + 1) = plk L lo hi k i ++ (if within (kn (L k) i).At lo hi then [(kn (L k) i).At] else []) := by
  have hk : (L k)[i]? = some (kn (L k) i) := by simp [kn, h]
  simp only [plk, List.take_add_one, hk, Option.toList_some, List.map_append, List.filter_append, List.map_cons, List.map_nil, List.cons_append, List.append_assoc]
  cases hw : within (kn (L k) i).At lo hi <;> simp [hw]
theorem flat_len (L : Nat → List Knot) (lo hi : Int) (k : Nat) (h : ∀ t, t < k → (L t).length ≤ 24) : ((List.range k).flatMap fun t => ((L t).map Knot.At).filter fun z => within z lo hi).length ≤ 24 * k := by
  induction k with
  | zero => simp
  | succ k ih =>
    rw [List.range_succ, List.flatMap_append, List.length_append]
    have h1 := ih (fun t ht => h t (by omega))
    have h2 := List.length_filter_le (fun z => within z lo hi) ((L k).map Knot.At)
    have h3 := h k (by omega)
    rw [List.length_map] at h2
    rw [List.flatMap_cons, List.flatMap_nil, List.append_nil]
    omega
theorem plk_len (L : Nat → List Knot) (lo hi : Int) (k i : Nat) (h : ∀ t, t < k → (L t).length ≤ 24) (hk : (L k).length ≤ 24) : (plk L lo hi k i).length ≤ 24 * k + 25 := by
  have h1 := flat_len L lo hi k h
  have h2 := List.length_filter_le (fun z => within z lo hi) (((L k).take i).map Knot.At)
  have h3 := List.length_take_le i (L k)
  have h4 : ((L k).take i).length ≤ (L k).length := by rw [List.length_take]; omega
  simp only [plk, List.length_cons, List.length_append]
  simp only [List.length_map] at h2
  omega

set_option maxHeartbeats 4000000 in
set_option maxRecDepth 100000 in
theorem extreme_walk (lo hi : Int) (b off cap : Nat) (A : Nat → Option Addr) (c : Nat → Nat) (L : Nat → List Knot) (w : World) (hl : LinesAt w w.heap.size b off 2 A c L) (h0 : okLine (L 0) = 0) (h1 : okLine (L 1) = 0) (hlo : 0 ≤ lo) (hle : lo ≤ hi) (hhi : hi ≤ 1048576) :
    Calls Try.prog 45 #[.int .i64 lo, .int .i64 hi, .func (.func 46) #[] #[], .slice (some ⟨b, off, none⟩) 2 cap] w fun e w' =>
      e = .returned (.int .i64 ((plk L lo hi 2 0).foldl (fun o z => max o (excessAt (L 0) (L 1) z)) (excessAt (L 0) (L 1) lo))) ∧ Below w.heap.size w w' := by
  have hlen : ∀ t, t < 2 → (L t).length ≤ 24 := fun t ht => by
    rcases (show t = 0 ∨ t = 1 by omega) with rfl | rfl
    · exact (checkLine_good h0).1.few
    · exact (checkLine_good h1).1.few
  have hB := ((Below.refl w.heap.size w).alloc (Nat.le_refl _) (.cells #[.func (.func 46) #[] #[]] 74)).alloc (by simp) (.cells #[.slice (some ⟨b, off, none⟩) 2 cap] 107)
  have HC := Lib.hid (casing_checkLines b off 2 cap A c L _ (hl.below hB) (by omega))
  have hz : firstErr (fun i => okLine (L i)) 0 2 = 0 := by simp [firstErr, h0, h1]
  rw [hz] at HC
  clear hz
  have HL := Lib.hid hl
  have HLN := Lib.hid hlen
  have H0 := Lib.hid h0
  have H1 := Lib.hid h1
  clear hl hlen h0 h1
  obtain ⟨i0, hi0, hz0, hz1, hz2⟩ := info_parts info_int64
  generalize hres : ((plk L lo hi 2 0).foldl (fun o z => max o (excessAt (L 0) (L 1) z)) (excessAt (L 0) (L 1) lo)) = res
  have HR := Lib.hid hres
  clear hres
  have z1 : decide (lo < 0) = false := decide_eq_false (by omega)
  have z2 : decide (hi < lo) = false := decide_eq_false (by omega)
  have z3 : decide (1048576 < hi) = false := decide_eq_false (by omega)
  go_enter Try.func45, Try.ntmps45
  go_wp2_with fail
  refine HC.out.mono ?_
  rintro e w1 ⟨rfl, hb1⟩
  have hB1 := hB.trans (hb1.mono hB.size)
  have b0 : Box w1 w.heap.size _ _ := ((Box.new w 74 #[.func (.func 46) #[] #[]] rfl).alloc _).under hb1
  have b1 : Box w1 (w.heap.size + 1) _ _ := (Box.new (w.alloc (.cells #[.func (.func 46) #[] #[]] 74)) 107 #[.slice (some ⟨b, off, none⟩) 2 cap] (by simp)).under hb1
  have q1 := b1.cell 0
  have hlt1 := b1.lt
  have hsz1 := hB1.size
  simp only [List.getElem?_toArray, List.getElem?_cons_zero] at q1
  go_wp2_with fail
  clear q1
  go_loopw [9, 38] (fun s9 s38 wr => ∃ k : Nat, k ≤ 2 ∧ s38 = .int .i64 k ∧ Hid (wr.ownsRow w1.heap.size 2 1 s9 (plk L lo hi k 0).length ((plk L lo hi k 0).map (Value.int .i64))) ∧ Hid (Below w1.heap.size w1 wr)) (fun _ s38 _ => 2 - (intOf s38).toNat)
  case atStart => exact ⟨0, Nat.zero_le _, rfl, World.ownsRow_lit w1 #[.int .i64 hi] 1 (Nat.le_refl _) (by unfold maxLen; omega) rfl, (Below.refl _ _).alloc (Nat.le_refl _) _⟩
  case round =>
    obtain ⟨k, hk, rfl, hown, BW⟩ := hrel
    have BB : Hid (Below w.heap.size w wr) := hB1.trans (BW.out.mono hB1.size)
    by_cases hlt : k < 2
    · have hl2 := HL.out.below BB.out
      have d0 := hl2.cell k hlt
      have hk2 : decide ((k : Int) < 2) = true := decide_eq_true (by omega)
      have hn24 := HLN.out k hlt
      have hpos : 0 < (L k).length := by
        rcases (show k = 0 ∨ k = 1 by omega) with rfl | rfl
        · exact (checkLine_good H0.out).1.pos
        · exact (checkLine_good H1.out).1.pos
      obtain ⟨kb, koff, hAk, hkb, hkc⟩ := (HL.out.knots k hlt).out hpos
      have HK := Lib.hid hkc
      rw [hAk] at d0
      clear hl2 hkc hAk hpos
      have HPN := Lib.hid (plk_next L lo hi k)
      have HPS := Lib.hid (plk_step L lo hi k)
      have HPL := Lib.hid (plk_len L lo hi k)
      generalize hn0 : (L k).length = n0 at *
      have HN0 := Lib.hid hn0
      clear hn0
      go_wp2_with fail
      obtain ⟨wo, rfl⟩ : ∃ wo : World, wo = wr := ⟨_, rfl⟩
      go_loopw [9, 45] (fun s9 s45 wr => ∃ i : Nat, i ≤ n0 ∧ s45 = .int .i64 i ∧ Hid (wr.ownsRow w1.heap.size 2 1 s9 (plk L lo hi k i).length ((plk L lo hi k i).map (Value.int .i64))) ∧ Hid (Below w1.heap.size w1 wr)) (fun _ s45 _ => n0 - (intOf s45).toNat)
      case atStart => exact ⟨0, Nat.zero_le _, rfl, hown.out.alloc _, BW.out.alloc BW.out.size _⟩
      case round =>
        obtain ⟨i, hi', rfl, hown2, BW2⟩ := hrel
        have BB2 : Hid (Below w.heap.size w wr) := hB1.trans (BW2.out.mono hB1.size)
        have hsz2 := BW2.out.size
        by_cases hlt2 : i < n0
        · obtain ⟨c0, c1⟩ := HK.out i hlt2
          have f0 := oldCell BB2.out hkb c0
          have f1 := oldCell BB2.out hkb c1
          clear c0 c1
          have hps := Lib.hid (HPS.out i hlt2)
          cases hw : within (kn (L k) i).At lo hi
          · rw [hw] at hps
            go_wp2_with (go_at_call 48; refine (casing_within _ _ _ _).mono ?_; rintro e w' ⟨rfl, rfl⟩)
            go_roundw
            case rel => exact ⟨i + 1, hlt2, by go_num, by unfold Hid; rw [hps.out]; simpa using hown2.out.alloc _, BW2.out.alloc hsz2 _⟩
            case measure => simp [intOf]; omega
          · rw [hw] at hps
            have hpl := HPL.out i (fun t ht => HLN.out t (by omega)) hn24
            have hown3 := hown2.out.alloc (.cells #[.int .i64 (kn (L k) i).At, .int .i64 (kn (L k) i).V] 71)
            go_wp2_with (first | (go_at_call 48; refine (casing_within _ _ _ _).mono ?_; rintro e w' ⟨rfl, rfl⟩) | (at_builtin; refine wpList_append_own _ rfl _ _ 32 rfl w1.heap.size 2 i0 (.int .i64 0) 1 8 Try.underlying32 hi0 hz0 hz1 hz2 rfl (by decide) _ _ _ rfl (hown3.alloc _) ⟨wr.heap.size + 1, 0, none⟩ 1 1 [.int .i64 (kn (L k) i).At] rfl rfl ?c1 ?c2 ?c3 ?c4 ?c5 ?_))
            case c1 => 
              have := cells_new (wr.alloc (.cells #[.int .i64 (kn (L k) i).At, .int .i64 (kn (L k) i).V] 71)) [.int .i64 (kn (L k) i).At] 2
              simpa using this
            case c2 => simp [Value.oneCell']
            case c3 => unfold maxLen; omega
            case c4 => omega
            case c5 => simp; omega
            intro v' w2 hown4 hg4 _
            have HO4 := Lib.hid hown4
            have HB4 := Lib.hid (below_grown ((BW2.out.alloc hsz2 _).alloc (by simp; omega) _) (hown3.alloc _) hg4 (by simp; omega))
            clear hown4 hg4 hown3
            go_wp2_with fail
            go_roundw
            case rel => exact ⟨i + 1, hlt2, by go_num, by unfold Hid; rw [hps.out]; simpa using HO4.out, HB4.out⟩
            case measure => simp [intOf]; omega
        · obtain rfl : i = n0 := by omega
          go_wp2_with fail
          go_roundw
          case rel => exact ⟨k + 1, by omega, by go_num, by unfold Hid; rw [← HPN.out]; exact hown2.out, BW2.out⟩
          case measure => simp [intOf]; omega
    · obtain rfl : k = 2 := by omega
      have HA : Hid (∀ (W : World) (z : Int), Below w1.heap.size w1 W → Calls Try.prog 84 #[.int .i64 z, .pointer (some ⟨w.heap.size + 1, 0, none⟩), .pointer (some ⟨w.heap.size, 0, none⟩)] W fun e W' => e = .returned (.int .i64 (excessAt (L 0) (L 1) z)) ∧ Below W.heap.size W W') := fun W z hW =>
        extreme_at z _ _ b off cap A c L W (HL.out.below (hB1.trans (hW.mono hB1.size))) (by have := hW.size; omega) (by have := hW.size; omega) ((b1.under hW).cell 0) ((b0.under hW).cell 0) H0.out H1.out
      generalize hpl : plk L lo hi 2 0 = pl at *
      have hm50 : pl.length ≤ 100 := by
        rw [← hpl, ← plk_next L lo hi 1]
        have := plk_len L lo hi 1 (L 1).length (fun t ht => HLN.out t (by omega)) (HLN.out 1 (by omega))
        omega
      have hm0 : 0 < pl.length := by rw [← hpl]; simp [plk]
      clear hpl
      obtain ⟨g, cap', rfl, _, hg1, hg2, hcell⟩ := own_out hown.out hm0
      have HCL := Lib.hid hcell
      clear hcell hown
      generalize hm : pl.length = m at *
      have HM := Lib.hid hm
      clear hm
      have hex : ∀ z, -68719476736 ≤ excessAt (L 0) (L 1) z ∧ excessAt (L 0) (L 1) z ≤ 68719476736 := fun z => by
        have h1 := at_bounds H0.out z
        have h2 := at_bounds H1.out z
        unfold excessAt
        omega
      have HEX := Lib.hid hex
      clear hex
      generalize excessAt (L 0) (L 1) = ex at *
      go_wp2_with fail
      refine (HA.out wr lo BW.out).mono ?_
      rintro e w2 ⟨rfl, hb2⟩
      have BW2 := Lib.hid (BW.out.trans (hb2.mono BW.out.size))
      go_wp2_with fail
      obtain ⟨wo, rfl⟩ : ∃ wo : World, wo = wr := ⟨_, rfl⟩
      go_loopw [15, 67] (fun s15 s67 wr => ∃ (i : Nat) (o : Int), i ≤ m ∧ s67 = .int .i64 i ∧ s15 = .int .i64 o ∧ Hid ((pl.drop i).foldl (fun o z => max o (ex z)) o = res) ∧ Hid (Below w2.heap.size w2 wr)) (fun _ s67 _ => m - (intOf s67).toNat)
      case atStart => exact ⟨0, _, Nat.zero_le _, rfl, rfl, HR, Below.refl _ _⟩
      case round =>
        obtain ⟨i, o, hi', rfl, rfl, hr, BW3⟩ := hrel
        by_cases hlt2 : i < m
        · have hip : i < pl.length := by rw [HM.out]; exact hlt2
          have hcl := HCL.out i (.int .i64 pl[i]) (by simp [hip])
          have f0 := oldCell ((hb2.mono (Nat.le_refl _)).trans (BW3.out.mono hb2.size)) hg2 hcl
          have hd := Lib.hid (show (pl.drop i).foldl (fun o z => max o (ex z)) o = (pl.drop (i + 1)).foldl (fun o z => max o (ex z)) (max o (ex pl[i])) by rw [List.drop_eq_getElem_cons hip, List.foldl_cons])
          clear hcl
          generalize pl[i] = z at *
          have BW4 := BW2.out.trans (BW3.out.mono BW2.out.size)
          by_cases hmx : o < ex z
          · rw [show max o (ex z) = ex z by omega] at hd
            go_wp2_with fail
            refine (HA.out wr z BW4).mono ?_
            rintro e w3 ⟨rfl, hb3⟩
            go_wp2_with fail
            go_roundw
            case rel => exact ⟨i + 1, ex z, hlt2, by go_num, rfl, by unfold Hid; rw [← hd.out]; exact hr.out, BW3.out.trans (hb3.mono BW3.out.size)⟩
            case measure => simp [intOf]; omega
          · rw [show max o (ex z) = o by omega] at hd
            go_wp2_with fail
            refine (HA.out wr z BW4).mono ?_
            rintro e w3 ⟨rfl, hb3⟩
            go_wp2_with fail
            go_roundw
            case rel => exact ⟨i + 1, o, hlt2, by go_num, rfl, by unfold Hid; rw [← hd.out]; exact hr.out, BW3.out.trans (hb3.mono BW3.out.size)⟩
            case measure => simp [intOf]; omega
        · go_wp2_with fail
          go_ret
          refine ⟨ret_int ?_, hB1.trans ((BW2.out.trans (BW3.out.mono BW2.out.size)).mono hB1.size)⟩
          rw [← hr.out, List.drop_eq_nil_of_le (by rw [HM.out]; omega)]
          rfl

theorem plk_places (L : Nat → List Knot) (lo hi : Int) : plk L lo hi 2 0 = places (L 0) (L 1) lo hi := by
  simp [plk, places, List.range_succ]

set_option maxHeartbeats 1000000 in
/-- the greatest of what is too much, in a part -/
theorem casing_extreme (lo hi : Int) (b off cap : Nat) (A : Nat → Option Addr) (c : Nat → Nat) (L : Nat → List Knot) (w : World) (hl : LinesAt w w.heap.size b off 2 A c L) :
    Calls Try.prog 45 #[.int .i64 lo, .int .i64 hi, .func (.func 46) #[] #[], .slice (some ⟨b, off, none⟩) 2 cap] w fun e w' =>
      e = .returned (.int .i64 (extreme (L 0) (L 1) lo hi)) ∧ Below w.heap.size w w' := by
  by_cases hall : okLine (L 0) = 0 ∧ okLine (L 1) = 0 ∧ 0 ≤ lo ∧ lo ≤ hi ∧ hi ≤ 1048576
  · obtain ⟨h0, h1, h2, h3, h4⟩ := hall
    have := extreme_walk lo hi b off cap A c L w hl h0 h1 h2 h3 h4
    rw [plk_places] at this
    rw [extreme, if_neg (by omega)]
    exact this
  · have hs := Lib.hid (show extreme (L 0) (L 1) lo hi = 0 by rw [extreme, if_pos (by omega)])
    have hB := ((Below.refl w.heap.size w).alloc (Nat.le_refl _) (.cells #[.func (.func 46) #[] #[]] 74)).alloc (by simp) (.cells #[.slice (some ⟨b, off, none⟩) 2 cap] 107)
    have HC := Lib.hid (casing_checkLines b off 2 cap A c L _ (hl.below hB) (by omega))
    clear hl
    by_cases hz : firstErr (fun i => okLine (L i)) 0 2 = 0
    · have h01 : okLine (L 0) = 0 ∧ okLine (L 1) = 0 := by
        simp only [firstErr] at hz
        by_cases h0 : okLine (L 0) = 0 <;> by_cases h1 : okLine (L 1) = 0 <;> simp [h0, h1] at hz ⊢
      rw [hz] at HC
      clear hz
      have hcs : lo < 0 ∨ (0 ≤ lo ∧ hi < lo) ∨ (0 ≤ lo ∧ lo ≤ hi ∧ 1048576 < hi) := by omega
      clear hall h01
      rcases hcs with h | ⟨h, h'⟩ | ⟨h, h', h''⟩
      · have z1 : decide (lo < 0) = true := decide_eq_true (by omega)
        go_enter Try.func45, Try.ntmps45
        go_wp2_with fail
        refine HC.out.mono ?_
        rintro e w1 ⟨rfl, hb1⟩
        go_wp2_with fail
        go_ret
        exact ⟨ret_int hs.out.symm, hB.trans (hb1.mono hB.size)⟩
      · have z1 : decide (lo < 0) = false := decide_eq_false (by omega)
        have z2 : decide (hi < lo) = true := decide_eq_true (by omega)
        go_enter Try.func45, Try.ntmps45
        go_wp2_with fail
        refine HC.out.mono ?_
        rintro e w1 ⟨rfl, hb1⟩
        go_wp2_with fail
        go_ret
        exact ⟨ret_int hs.out.symm, hB.trans (hb1.mono hB.size)⟩
      · have z1 : decide (lo < 0) = false := decide_eq_false (by omega)
        have z2 : decide (hi < lo) = false := decide_eq_false (by omega)
        have z3 : decide (1048576 < hi) = true := decide_eq_true (by omega)
        go_enter Try.func45, Try.ntmps45
        go_wp2_with fail
        refine HC.out.mono ?_
        rintro e w1 ⟨rfl, hb1⟩
        go_wp2_with fail
        go_ret
        exact ⟨ret_int hs.out.symm, hB.trans (hb1.mono hB.size)⟩
    · clear hall
      have hzz : (firstErr (fun i => okLine (L i)) 0 2 != 0) = true := by simpa using hz
      clear hz
      generalize firstErr (fun i => okLine (L i)) 0 2 = ee at *
      go_enter Try.func45, Try.ntmps45
      go_wp2_with fail
      refine HC.out.mono ?_
      rintro e w1 ⟨rfl, hb1⟩
      go_wp2_with fail
      go_ret
      exact ⟨ret_int hs.out.symm, hB.trans (hb1.mono hB.size)⟩

set_option maxHeartbeats 1000000 in
theorem casing_Inside (l : Stress) (lo hi : Int) (v0 : Value) (w : World) (hv : StressV w w.heap.size v0 l) :
    Calls Try.prog 15 #[v0, .int .i64 lo, .int .i64 hi] w fun e w' => e = .returned (.int .i64 (inside l lo hi)) ∧ Below w.heap.size w w' := by
  obtain ⟨AI, cI, AO, cO, rfl, hI, hO⟩ := hv
  have hB := ((Below.refl w.heap.size w).alloc (Nat.le_refl _) (.cells #[.slice AI l.In.length cI, .slice AO l.Out.length cO] 26)).alloc (by simp) (.cells #[.slice AI l.In.length cI, .slice AO l.Out.length cO] 24)
  have hl := two_lines _ ((w.alloc (.cells #[.slice AI l.In.length cI, .slice AO l.Out.length cO] 26)).alloc (.cells #[.slice AI l.In.length cI, .slice AO l.Out.length cO] 24)).heap.size (w.heap.size + 1) 24 AI AO cI cO l.In l.Out (Box.new (w.alloc _) _ _ (by simp)) (by simp) (hI.up hB hB.size) (hO.up hB hB.size)
  have H := Lib.hid (casing_extreme lo hi _ _ 2 _ _ _ _ hl)
  clear hl hI hO
  unfold inside
  generalize l.In.length = n0 at *
  generalize l.Out.length = n1 at *
  go_enter Try.func15, Try.ntmps15
  go_wp2_with (go_at_call 45; refine H.out.mono ?_; rintro e w1 ⟨rfl, hb1⟩)
  go_ret
  exact ⟨rfl, hB.trans (hb1.mono hB.size)⟩

set_option maxHeartbeats 1000000 in
theorem casing_Outside (l : Stress) (lo hi : Int) (v0 : Value) (w : World) (hv : StressV w w.heap.size v0 l) :
    Calls Try.prog 17 #[v0, .int .i64 lo, .int .i64 hi] w fun e w' => e = .returned (.int .i64 (outside l lo hi)) ∧ Below w.heap.size w w' := by
  obtain ⟨AI, cI, AO, cO, rfl, hI, hO⟩ := hv
  have hB := ((Below.refl w.heap.size w).alloc (Nat.le_refl _) (.cells #[.slice AI l.In.length cI, .slice AO l.Out.length cO] 26)).alloc (by simp) (.cells #[.slice AO l.Out.length cO, .slice AI l.In.length cI] 24)
  have hl := two_lines _ ((w.alloc (.cells #[.slice AI l.In.length cI, .slice AO l.Out.length cO] 26)).alloc (.cells #[.slice AO l.Out.length cO, .slice AI l.In.length cI] 24)).heap.size (w.heap.size + 1) 24 AO AI cO cI l.Out l.In (Box.new (w.alloc _) _ _ (by simp)) (by simp) (hO.up hB hB.size) (hI.up hB hB.size)
  have H := Lib.hid (casing_extreme lo hi _ _ 2 _ _ _ _ hl)
  clear hl hI hO
  unfold outside
  generalize l.In.length = n0 at *
  generalize l.Out.length = n1 at *
  go_enter Try.func17, Try.ntmps17
  go_wp2_with (go_at_call 45; refine H.out.mono ?_; rintro e w1 ⟨rfl, hb1⟩)
  go_ret
  exact ⟨rfl, hB.trans (hb1.mono hB.size)⟩

theorem mul_room (q f : Int) (h1 : 0 ≤ q) (h2 : q ≤ 68719476736) (h3 : 1000 ≤ f) (h4 : f ≤ 3000) : 0 ≤ q * f ∧ q * f ≤ 206158430208000 := by
  have a1 : 0 ≤ q * f := Int.mul_nonneg h1 (by omega)
  have a2 : q * f ≤ 68719476736 * f := Int.mul_le_mul_of_nonneg_right h2 (by omega)
  omega

set_option maxHeartbeats 1000000 in
theorem casing_Needed (q factor : Int) (w : World) :
    Calls Try.prog 19 #[.int .i64 q, .int .i64 factor] w fun e w' => e = .returned (.int .i64 (needed q factor)) ∧ w = w' := by
  cases h1 : within q (-68719476736) 68719476736
  · have hs := Lib.hid (show needed q factor = 0 by simp [needed, h1])
    go_enter Try.func19, Try.ntmps19
    go_wp2_with (go_at_call 48; refine (casing_within _ _ _ _).mono ?_; rintro e w' ⟨rfl, rfl⟩)
    go_ret
    exact ⟨ret_int hs.out.symm, rfl⟩
  cases h2 : within factor 1000 3000
  · have hs := Lib.hid (show needed q factor = 0 by simp [needed, h2])
    go_enter Try.func19, Try.ntmps19
    go_wp2_with (go_at_call 48; refine (casing_within _ _ _ _).mono ?_; rintro e w' ⟨rfl, rfl⟩)
    go_ret
    exact ⟨ret_int hs.out.symm, rfl⟩
  have hs := Lib.hid (show needed q factor = (max q 0 * factor + 999) / 1000 by simp [needed, h1, h2])
  have e1 := h1
  have e2 := h2
  simp only [within, decide_eq_true_eq] at e1 e2
  obtain ⟨e3, e4⟩ := e1
  obtain ⟨e5, e6⟩ := e2
  by_cases hq : q < 0
  · rw [show max q 0 = 0 by omega] at hs
    go_enter Try.func19, Try.ntmps19
    go_wp2_with (go_at_call 48; refine (casing_within _ _ _ _).mono ?_; rintro e w' ⟨rfl, rfl⟩)
    go_ret
    exact ⟨ret_int (by rw [hs.out]; simp), rfl⟩
  · rw [show max q 0 = q by omega] at hs
    obtain ⟨r1, r2⟩ := mul_room q factor (by omega) e4 e5 e6
    go_enter Try.func19, Try.ntmps19
    go_wp2_with (go_at_call 48; refine (casing_within _ _ _ _).mono ?_; rintro e w' ⟨rfl, rfl⟩)
    go_ret
    exact ⟨ret_int hs.out.symm, rfl⟩

end Go.Proofs.Ytannipfohicpmaa
