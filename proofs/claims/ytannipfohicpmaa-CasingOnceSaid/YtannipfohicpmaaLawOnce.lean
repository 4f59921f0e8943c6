/- The law CasingOnce, walked. Written by gen_once.py. -/
import Derived.Test.YtannipfohicpmaaProvenLaws
import Derived.Test.YtannipfohicpmaaMod
import Derived.Test.YtannipfohicpmaaAppend
import Derived.Test.YtannipfohicpmaaOpen
namespace Go.Proofs.Ytannipfohicpmaa
open Go.RowKit Go.Shelf Mpl

theorem ts_snoc_in {l : List Test} {t : Test} (h : TestsIn l) (_h1 : inI64 t.P) (h2 : inI64 t.Tick) : ticksIn (l ++ [t]) := fun i => by
  rcases Nat.lt_trichotomy i l.length with hi | hi | hi
  · have : ts (l ++ [t]) i = ts l i := by simp [ts, List.getElem?_append_left hi]
    rw [this]; exact (h i).2
  · subst hi
    have : ts (l ++ [t]) l.length = t := by simp [ts]
    rw [this]; exact h2
  · have : ts (l ++ [t]) i = ⟨0, false, 0⟩ := by
      have : (l ++ [t])[i]? = none := List.getElem?_eq_none (by simp; omega)
      simp [ts, this]
    rw [this]; unfold inI64; simp

theorem snoc_own {W : World} {base e n : Nat} {v : Value} {l : List Test} {x : Test} (h : World.ownsRow W base e 3 v n (l.flatMap testC ++ testC x)) : ∃ A c, v = .slice A (l.length + 1) c ∧ Tests W W.heap.size A (l ++ [x]) := by
  obtain ⟨A, c, hv, _, hT⟩ := Tests.own (l := l ++ [x]) (by rw [List.flatMap_append]; simpa using h)
  exact ⟨A, c, by simpa using hv, hT⟩
theorem snoc_Proven (l : List Test) (x : Test) (need now age : Int) (A : Option Addr) (c : Nat) (w : World) (hT : Tests w w.heap.size A (l ++ [x])) (iage : inI64 age) (inow : inI64 now) (itick : ticksIn (l ++ [x])) :
    Calls Try.prog 32 #[.slice A (l.length + 1) c, .int .i64 need, .int .i64 now, .int .i64 age] w fun e w' => e = .returned (.bool (proven (l ++ [x]) need now age)) ∧ Below w.heap.size w w' := by
  have := casing_Proven (l ++ [x]) need now age A c w hT iage inow itick
  rwa [List.length_append, List.length_singleton] at this

theorem clean_step (l : List Test) (now : Int) (k : Nat) (h : k < l.length) : (l.take (k + 1)).all (fun x => x.Held || x.Tick != now) = ((l.take k).all (fun x => x.Held || x.Tick != now) && ((ts l k).Held || (ts l k).Tick != now)) := by
  rw [List.take_succ_eq_append_getElem h, List.all_append]
  simp [ts, h]

theorem mod40 (n : Int) : 0 ≤ n % 1099511627776 ∧ n % 1099511627776 ≤ 1099511627775 := by omega

set_option maxHeartbeats 4000000 in
set_option maxRecDepth 100000 in
theorem walk_CasingOnce (l : List Test) (A : Option Addr) (c : Nat) (need less now age more : Int) (w : World) (hT : Tests w w.heap.size A l) (hin : TestsIn l) (_hnc : l.length ≤ c) (_hcm : c ≤ maxLen) (ineed : inI64 need) (iless : inI64 less) (inow : inI64 now) (iage : inI64 age) (imore : inI64 more) :
    Calls Try.prog 7 #[.slice A l.length c, .int .i64 need, .int .i64 less, .int .i64 now, .int .i64 age, .int .i64 more] w fun e w' => e = .returned (.bool true) ∧ Below w.heap.size w w' := by
  by_cases h1 : 20 < l.length
  · have h1' : decide ((20 : Int) < (l.length : Int)) = true := decide_eq_true (by omega)
    clear hT hin
    generalize l.length = nl at *
    go_enter Try.func7, Try.ntmps7
    go_wp2_with fail
    refine (law05_awake _).mono ?_
    rintro e w1 ⟨rfl, hb1⟩
    go_wp2_with fail
    go_ret
    exact ⟨rfl, hb1⟩
  have h1' : decide ((20 : Int) < (l.length : Int)) = false := decide_eq_false (by omega)
  have M1 := Lib.hid (fun W => kit_Mod64 need 1099511627776 W ineed (by omega) (by omega))
  have M2 := Lib.hid (fun W => kit_Mod64 less 1099511627776 W iless (by omega) (by omega))
  have M3 := Lib.hid (fun W => kit_Mod64 now 1099511627776 W inow (by omega) (by omega))
  have M4 := Lib.hid (fun W => kit_Mod64 age 1099511627776 W iage (by omega) (by omega))
  have M5 := Lib.hid (fun W => kit_Mod64 more 1099511627776 W imore (by omega) (by omega))
  obtain ⟨b1, b2⟩ := mod40 need
  obtain ⟨b3, b4⟩ := mod40 less
  obtain ⟨b5, b6⟩ := mod40 now
  obtain ⟨b7, b8⟩ := mod40 age
  obtain ⟨b9, b10⟩ := mod40 more
  clear ineed iless inow iage imore
  generalize need % 1099511627776 = a at *
  generalize less % 1099511627776 = s at *
  generalize now % 1099511627776 = t at *
  generalize age % 1099511627776 = g at *
  generalize more % 1099511627776 = m at *
  have htick : ticksIn l := fun i => (hin i).2
  have HP := Lib.hid (fun W q u (hu : inI64 u) (hW : Below w.heap.size w W) => casing_Proven l q t u A c W (hT.up hW hW.size) hu ⟨by omega, by omega⟩ htick)
  have HPB := Lib.hid (fun W A' c' (h : Tests W W.heap.size A' (l ++ [⟨a, false, t⟩])) => snoc_Proven l ⟨a, false, t⟩ a t g A' c' W h ⟨by omega, by omega⟩ ⟨by omega, by omega⟩ (ts_snoc_in hin ⟨by simp; omega, by simp; omega⟩ ⟨by simp; omega, by simp; omega⟩))
  have HPG := Lib.hid (fun W A' c' (h : Tests W W.heap.size A' (l ++ [⟨a, true, t⟩])) => snoc_Proven l ⟨a, true, t⟩ a t g A' c' W h ⟨by omega, by omega⟩ ⟨by omega, by omega⟩ (ts_snoc_in hin ⟨by simp; omega, by simp; omega⟩ ⟨by simp; omega, by simp; omega⟩))
  rw [proven_bad (by omega) b7] at HPB
  have HGood := Lib.hid (fun h => proven_good (l := l) (need := a) (now := t) (age := g) (by omega) b7 h)
  have HT := Lib.hid hT
  have HLess := Lib.hid (fun h => proven_less (l := l) (need := a) (less := s) (now := t) (age := g) (by omega) b7 b3 h)
  have HMore := Lib.hid (fun h => proven_more (l := l) (need := a) (now := t) (age := g) (more := m) (by omega) b7 b9 h)
  have HOne := Lib.hid (testC_one l)
  have HSrc := Lib.hid (fun W (hW : Below w.heap.size w W) => (hT.up hW hW.size).src)
  have HOwn := Lib.hid (fun W base e v n x (h : World.ownsRow W base e 3 v n (l.flatMap testC ++ testC x)) => snoc_own h)
  have HST := Lib.hid (fun k h => clean_step l t k h)
  obtain ⟨i0, hi, hz0, hz1, hz2⟩ := info_parts info_Test
  clear hT hin htick
  generalize l.flatMap testC = cells at *
  cases hp : proven l a t g
  · have HP1 := Lib.hid (HP.out · a g ⟨by omega, by omega⟩)
    rw [hp] at HP1
    clear HLess HMore HP hp
    generalize hnl : l.length = nl at *
    have HNL := Lib.hid hnl
    clear hnl
    go_enter Try.func7, Try.ntmps7
    go_wp2_with fail
    refine (M1.out _).mono ?_
    rintro e w' ⟨rfl, rfl⟩
    go_wp2_with fail
    refine (M2.out _).mono ?_
    rintro e w' ⟨rfl, rfl⟩
    go_wp2_with fail
    refine (M3.out _).mono ?_
    rintro e w' ⟨rfl, rfl⟩
    go_wp2_with fail
    refine (M4.out _).mono ?_
    rintro e w' ⟨rfl, rfl⟩
    go_wp2_with fail
    refine (M5.out _).mono ?_
    rintro e w' ⟨rfl, rfl⟩
    clear M1 M2 M3 M4 M5
    go_wp2_with fail
    refine (HP1.out w (Below.refl _ _)).mono ?_
    rintro e w1 ⟨rfl, hb1⟩
    clear HP1
    have hCB := hb1.alloc hb1.size (.cells #[] 55)
    have HOB : Hid ((w1.alloc (.cells #[] 55)).ownsRow w1.heap.size 55 3 (.slice (some ⟨w1.heap.size, 0, none⟩) 0 0) 0 []) := World.ownsRow_lit w1 #[] 0 (Nat.le_refl _) (by unfold maxLen; omega) rfl
    have HSB := Lib.hid (HSrc.out _ hCB)
    go_wp2_with (at_builtin; refine wpList_append_list _ rfl _ _ 52 rfl w1.heap.size 55 i0 (.agg #[.int .i64 0, .bool false, .int .i64 0]) 3 24 Try.underlying52 hi hz0 hz1 hz2 rfl (by decide) _ 0 [] rfl HOB.out A nl c cells rfl HSB.out HOne.out ?_ ?_ ?_ ?_)
    · unfold maxLen; omega
    · omega
    · simp
    intro vB xB hoB hgB
    have hDB : Below w1.heap.size w1 xB := below_grown ((Below.refl w1.heap.size w1).alloc (Nat.le_refl _) _) HOB.out hgB (by simp)
    have hDsB := hDB.size
    have HVB := Lib.hid hoB
    clear hoB hgB HSB HOB
    go_wp2_with (at_builtin; refine wpList_append_own _ rfl _ _ 52 rfl w1.heap.size 55 i0 (.agg #[.int .i64 0, .bool false, .int .i64 0]) 3 24 Try.underlying52 hi hz0 hz1 hz2 rfl (by decide) _ _ _ rfl (HVB.out.alloc _) ⟨xB.heap.size, 0, none⟩ 1 1 (testC ⟨a, false, t⟩) rfl rfl ?_ ?_ ?_ ?_ ?_ ?_)
    · exact cells_new xB (testC ⟨a, false, t⟩) 55
    · simp [testC, Value.oneCell']
    · unfold maxLen; omega
    · omega
    · simp; omega
    intro uB yB hoB hgB _
    have hEB : Below w1.heap.size w1 yB := below_grown (hDB.alloc hDsB _) (HVB.out.alloc _) hgB (by simp; omega)
    obtain ⟨AB, cB, rfl, hTB⟩ := HOwn.out _ _ _ _ _ ⟨a, false, t⟩ (by simpa using hoB)
    have HTB := Lib.hid hTB
    replace hb1 := hb1.trans (hEB.mono hb1.size)
    clear hDB hDsB hoB hgB hTB HVB hCB
    clear hEB
    have hCG := hb1.alloc hb1.size (.cells #[] 55)
    have HOG : Hid ((yB.alloc (.cells #[] 55)).ownsRow yB.heap.size 55 3 (.slice (some ⟨yB.heap.size, 0, none⟩) 0 0) 0 []) := World.ownsRow_lit yB #[] 0 (Nat.le_refl _) (by unfold maxLen; omega) rfl
    have HSG := Lib.hid (HSrc.out _ hCG)
    go_wp2_with (at_builtin; refine wpList_append_list _ rfl _ _ 52 rfl yB.heap.size 55 i0 (.agg #[.int .i64 0, .bool false, .int .i64 0]) 3 24 Try.underlying52 hi hz0 hz1 hz2 rfl (by decide) _ 0 [] rfl HOG.out A nl c cells rfl HSG.out HOne.out ?_ ?_ ?_ ?_)
    · unfold maxLen; omega
    · omega
    · simp
    intro vG xG hoG hgG
    have hDG : Below yB.heap.size yB xG := below_grown ((Below.refl yB.heap.size yB).alloc (Nat.le_refl _) _) HOG.out hgG (by simp)
    have hDsG := hDG.size
    have HVG := Lib.hid hoG
    clear hoG hgG HSG HOG
    go_wp2_with (at_builtin; refine wpList_append_own _ rfl _ _ 52 rfl yB.heap.size 55 i0 (.agg #[.int .i64 0, .bool false, .int .i64 0]) 3 24 Try.underlying52 hi hz0 hz1 hz2 rfl (by decide) _ _ _ rfl (HVG.out.alloc _) ⟨xG.heap.size, 0, none⟩ 1 1 (testC ⟨a, true, t⟩) rfl rfl ?_ ?_ ?_ ?_ ?_ ?_)
    · exact cells_new xG (testC ⟨a, true, t⟩) 55
    · simp [testC, Value.oneCell']
    · unfold maxLen; omega
    · omega
    · simp; omega
    intro uG yG hoG hgG _
    have hEG : Below yB.heap.size yB yG := below_grown (hDG.alloc hDsG _) (HVG.out.alloc _) hgG (by simp; omega)
    obtain ⟨AG, cG, rfl, hTG⟩ := HOwn.out _ _ _ _ _ ⟨a, true, t⟩ (by simpa using hoG)
    have HTG := Lib.hid hTG
    replace hb1 := hb1.trans (hEG.mono hb1.size)
    clear hDG hDsG hoG hgG hTG HVG hCG
    replace HTB := Lib.hid (HTB.out.up hEG hEG.size)
    clear hEG
    go_wp2_with fail
    go_loopw [15, 16] (fun s15 s16 wr => ∃ (k : Nat) (cl : Bool), k ≤ nl ∧ s16 = .int .i64 k ∧ s15 = .bool cl ∧ Hid ((l.take k).all (fun x => x.Held || x.Tick != t) = cl) ∧ Hid (yG = wr)) (fun _ s16 _ => nl - (intOf s16).toNat)
    case atStart => exact ⟨0, true, Nat.zero_le _, rfl, rfl, rfl, rfl⟩
    case round =>
      obtain ⟨k, cl, hk, rfl, rfl, hcl, hwr⟩ := hrel
      obtain rfl := hwr.out
      clear hwr
      by_cases hlt : k < nl
      · obtain ⟨b, off, rfl, hb, hc⟩ := HT.out (by rw [HNL.out]; omega)
        obtain ⟨q0, q1, q2⟩ := hc k (by rw [HNL.out]; omega)
        have d1 := oldCell hb1 hb q1
        have d2 := oldCell hb1 hb q2
        clear hc q0 q1 q2
        have hs := Lib.hid (HST.out k hlt)
        rw [hcl.out] at hs
        generalize (ts l k).Held = xh at *
        generalize (ts l k).Tick = xt at *
        cases cl
        · go_wp2_with fail
          go_roundw
          case rel => exact ⟨k + 1, false, hlt, by go_num, rfl, hs.out, trivial⟩
          case measure => simp [intOf]; omega
        · cases xh
          · by_cases hx : xt = t
            · have hx' : (xt != t) = false := by simpa using hx
              rw [hx'] at hs
              clear hx
              go_wp2_with fail
              go_roundw
              case rel => exact ⟨k + 1, false, hlt, by go_num, rfl, hs.out, trivial⟩
              case measure => simp [intOf]; omega
            · have hx' : (xt != t) = true := by simpa using hx
              rw [hx'] at hs
              clear hx
              go_wp2_with fail
              go_roundw
              case rel => exact ⟨k + 1, true, hlt, by go_num, rfl, hs.out, trivial⟩
              case measure => simp [intOf]; omega
          · go_wp2_with fail
            go_roundw
            case rel => exact ⟨k + 1, true, hlt, by go_num, rfl, hs.out, trivial⟩
            case measure => simp [intOf]; omega
      · have hx : (l.take k) = l := List.take_of_length_le (by rw [HNL.out]; omega)
        rw [hx] at hcl
        clear hx
        cases cl
        · go_wp2_with fail
          refine (HPB.out _ _ _ HTB.out).mono ?_
          rintro e w5 ⟨rfl, hb5⟩
          go_wp2_with fail
          refine (law05_awake _).mono ?_
          rintro e w6 ⟨rfl, hb6⟩
          go_wp2_with fail
          go_ret
          replace hb1 := hb1.trans (hb5.mono hb1.size)
          exact ⟨rfl, hb1.trans (hb6.mono hb1.size)⟩
        · rw [HGood.out (fun x hx => by have := List.all_eq_true.1 hcl.out x hx; simpa using this)] at HPG
          go_wp2_with fail
          refine (HPB.out _ _ _ HTB.out).mono ?_
          rintro e w5 ⟨rfl, hb5⟩
          replace hb1 := hb1.trans (hb5.mono hb1.size)
          go_wp2_with fail
          refine (HPG.out _ _ _ (HTG.out.up hb5 hb5.size)).mono ?_
          rintro e w6 ⟨rfl, hb6⟩
          replace hb1 := hb1.trans (hb6.mono hb1.size)
          go_wp2_with fail
          refine (law05_awake _).mono ?_
          rintro e w7 ⟨rfl, hb7⟩
          go_wp2_with fail
          go_ret
          exact ⟨rfl, hb1.trans (hb7.mono hb1.size)⟩
  · have HP1 := Lib.hid (HP.out · a g ⟨by omega, by omega⟩)
    have HP2 := Lib.hid (HP.out · (a - s) g ⟨by omega, by omega⟩)
    have HP3 := Lib.hid (HP.out · a (g + m) ⟨by omega, by omega⟩)
    rw [HLess.out hp] at HP2
    rw [HMore.out hp] at HP3
    rw [hp] at HP1
    clear HLess HMore HP hp
    generalize hnl : l.length = nl at *
    have HNL := Lib.hid hnl
    clear hnl
    go_enter Try.func7, Try.ntmps7
    go_wp2_with fail
    refine (M1.out _).mono ?_
    rintro e w' ⟨rfl, rfl⟩
    go_wp2_with fail
    refine (M2.out _).mono ?_
    rintro e w' ⟨rfl, rfl⟩
    go_wp2_with fail
    refine (M3.out _).mono ?_
    rintro e w' ⟨rfl, rfl⟩
    go_wp2_with fail
    refine (M4.out _).mono ?_
    rintro e w' ⟨rfl, rfl⟩
    go_wp2_with fail
    refine (M5.out _).mono ?_
    rintro e w' ⟨rfl, rfl⟩
    clear M1 M2 M3 M4 M5
    go_wp2_with fail
    refine (HP1.out w (Below.refl _ _)).mono ?_
    rintro e w1 ⟨rfl, hb1⟩
    go_wp2_with fail
    refine (HP2.out w1 hb1).mono ?_
    rintro e w2 ⟨rfl, hb2⟩
    replace hb1 := hb1.trans (hb2.mono hb1.size)
    clear hb2
    go_wp2_with fail
    refine (HP3.out w2 hb1).mono ?_
    rintro e w1 ⟨rfl, hb2⟩
    replace hb1 := hb1.trans (hb2.mono hb1.size)
    clear hb2 HP1 HP2 HP3
    have hCB := hb1.alloc hb1.size (.cells #[] 55)
    have HOB : Hid ((w1.alloc (.cells #[] 55)).ownsRow w1.heap.size 55 3 (.slice (some ⟨w1.heap.size, 0, none⟩) 0 0) 0 []) := World.ownsRow_lit w1 #[] 0 (Nat.le_refl _) (by unfold maxLen; omega) rfl
    have HSB := Lib.hid (HSrc.out _ hCB)
    go_wp2_with (at_builtin; refine wpList_append_list _ rfl _ _ 52 rfl w1.heap.size 55 i0 (.agg #[.int .i64 0, .bool false, .int .i64 0]) 3 24 Try.underlying52 hi hz0 hz1 hz2 rfl (by decide) _ 0 [] rfl HOB.out A nl c cells rfl HSB.out HOne.out ?_ ?_ ?_ ?_)
    · unfold maxLen; omega
    · omega
    · simp
    intro vB xB hoB hgB
    have hDB : Below w1.heap.size w1 xB := below_grown ((Below.refl w1.heap.size w1).alloc (Nat.le_refl _) _) HOB.out hgB (by simp)
    have hDsB := hDB.size
    have HVB := Lib.hid hoB
    clear hoB hgB HSB HOB
    go_wp2_with (at_builtin; refine wpList_append_own _ rfl _ _ 52 rfl w1.heap.size 55 i0 (.agg #[.int .i64 0, .bool false, .int .i64 0]) 3 24 Try.underlying52 hi hz0 hz1 hz2 rfl (by decide) _ _ _ rfl (HVB.out.alloc _) ⟨xB.heap.size, 0, none⟩ 1 1 (testC ⟨a, false, t⟩) rfl rfl ?_ ?_ ?_ ?_ ?_ ?_)
    · exact cells_new xB (testC ⟨a, false, t⟩) 55
    · simp [testC, Value.oneCell']
    · unfold maxLen; omega
    · omega
    · simp; omega
    intro uB yB hoB hgB _
    have hEB : Below w1.heap.size w1 yB := below_grown (hDB.alloc hDsB _) (HVB.out.alloc _) hgB (by simp; omega)
    obtain ⟨AB, cB, rfl, hTB⟩ := HOwn.out _ _ _ _ _ ⟨a, false, t⟩ (by simpa using hoB)
    have HTB := Lib.hid hTB
    replace hb1 := hb1.trans (hEB.mono hb1.size)
    clear hDB hDsB hoB hgB hTB HVB hCB
    clear hEB
    have hCG := hb1.alloc hb1.size (.cells #[] 55)
    have HOG : Hid ((yB.alloc (.cells #[] 55)).ownsRow yB.heap.size 55 3 (.slice (some ⟨yB.heap.size, 0, none⟩) 0 0) 0 []) := World.ownsRow_lit yB #[] 0 (Nat.le_refl _) (by unfold maxLen; omega) rfl
    have HSG := Lib.hid (HSrc.out _ hCG)
    go_wp2_with (at_builtin; refine wpList_append_list _ rfl _ _ 52 rfl yB.heap.size 55 i0 (.agg #[.int .i64 0, .bool false, .int .i64 0]) 3 24 Try.underlying52 hi hz0 hz1 hz2 rfl (by decide) _ 0 [] rfl HOG.out A nl c cells rfl HSG.out HOne.out ?_ ?_ ?_ ?_)
    · unfold maxLen; omega
    · omega
    · simp
    intro vG xG hoG hgG
    have hDG : Below yB.heap.size yB xG := below_grown ((Below.refl yB.heap.size yB).alloc (Nat.le_refl _) _) HOG.out hgG (by simp)
    have hDsG := hDG.size
    have HVG := Lib.hid hoG
    clear hoG hgG HSG HOG
    go_wp2_with (at_builtin; refine wpList_append_own _ rfl _ _ 52 rfl yB.heap.size 55 i0 (.agg #[.int .i64 0, .bool false, .int .i64 0]) 3 24 Try.underlying52 hi hz0 hz1 hz2 rfl (by decide) _ _ _ rfl (HVG.out.alloc _) ⟨xG.heap.size, 0, none⟩ 1 1 (testC ⟨a, true, t⟩) rfl rfl ?_ ?_ ?_ ?_ ?_ ?_)
    · exact cells_new xG (testC ⟨a, true, t⟩) 55
    · simp [testC, Value.oneCell']
    · unfold maxLen; omega
    · omega
    · simp; omega
    intro uG yG hoG hgG _
    have hEG : Below yB.heap.size yB yG := below_grown (hDG.alloc hDsG _) (HVG.out.alloc _) hgG (by simp; omega)
    obtain ⟨AG, cG, rfl, hTG⟩ := HOwn.out _ _ _ _ _ ⟨a, true, t⟩ (by simpa using hoG)
    have HTG := Lib.hid hTG
    replace hb1 := hb1.trans (hEG.mono hb1.size)
    clear hDG hDsG hoG hgG hTG HVG hCG
    replace HTB := Lib.hid (HTB.out.up hEG hEG.size)
    clear hEG
    go_wp2_with fail
    go_loopw [15, 16] (fun s15 s16 wr => ∃ (k : Nat) (cl : Bool), k ≤ nl ∧ s16 = .int .i64 k ∧ s15 = .bool cl ∧ Hid ((l.take k).all (fun x => x.Held || x.Tick != t) = cl) ∧ Hid (yG = wr)) (fun _ s16 _ => nl - (intOf s16).toNat)
    case atStart => exact ⟨0, true, Nat.zero_le _, rfl, rfl, rfl, rfl⟩
    case round =>
      obtain ⟨k, cl, hk, rfl, rfl, hcl, hwr⟩ := hrel
      obtain rfl := hwr.out
      clear hwr
      by_cases hlt : k < nl
      · obtain ⟨b, off, rfl, hb, hc⟩ := HT.out (by rw [HNL.out]; omega)
        obtain ⟨q0, q1, q2⟩ := hc k (by rw [HNL.out]; omega)
        have d1 := oldCell hb1 hb q1
        have d2 := oldCell hb1 hb q2
        clear hc q0 q1 q2
        have hs := Lib.hid (HST.out k hlt)
        rw [hcl.out] at hs
        generalize (ts l k).Held = xh at *
        generalize (ts l k).Tick = xt at *
        cases cl
        · go_wp2_with fail
          go_roundw
          case rel => exact ⟨k + 1, false, hlt, by go_num, rfl, hs.out, trivial⟩
          case measure => simp [intOf]; omega
        · cases xh
          · by_cases hx : xt = t
            · have hx' : (xt != t) = false := by simpa using hx
              rw [hx'] at hs
              clear hx
              go_wp2_with fail
              go_roundw
              case rel => exact ⟨k + 1, false, hlt, by go_num, rfl, hs.out, trivial⟩
              case measure => simp [intOf]; omega
            · have hx' : (xt != t) = true := by simpa using hx
              rw [hx'] at hs
              clear hx
              go_wp2_with fail
              go_roundw
              case rel => exact ⟨k + 1, true, hlt, by go_num, rfl, hs.out, trivial⟩
              case measure => simp [intOf]; omega
          · go_wp2_with fail
            go_roundw
            case rel => exact ⟨k + 1, true, hlt, by go_num, rfl, hs.out, trivial⟩
            case measure => simp [intOf]; omega
      · have hx : (l.take k) = l := List.take_of_length_le (by rw [HNL.out]; omega)
        rw [hx] at hcl
        clear hx
        cases cl
        · go_wp2_with fail
          refine (HPB.out _ _ _ HTB.out).mono ?_
          rintro e w5 ⟨rfl, hb5⟩
          go_wp2_with fail
          refine (law05_awake _).mono ?_
          rintro e w6 ⟨rfl, hb6⟩
          go_wp2_with fail
          go_ret
          replace hb1 := hb1.trans (hb5.mono hb1.size)
          exact ⟨rfl, hb1.trans (hb6.mono hb1.size)⟩
        · rw [HGood.out (fun x hx => by have := List.all_eq_true.1 hcl.out x hx; simpa using this)] at HPG
          go_wp2_with fail
          refine (HPB.out _ _ _ HTB.out).mono ?_
          rintro e w5 ⟨rfl, hb5⟩
          replace hb1 := hb1.trans (hb5.mono hb1.size)
          go_wp2_with fail
          refine (HPG.out _ _ _ (HTG.out.up hb5 hb5.size)).mono ?_
          rintro e w6 ⟨rfl, hb6⟩
          replace hb1 := hb1.trans (hb6.mono hb1.size)
          go_wp2_with fail
          refine (law05_awake _).mono ?_
          rintro e w7 ⟨rfl, hb7⟩
          go_wp2_with fail
          go_ret
          exact ⟨rfl, hb1.trans (hb7.mono hb1.size)⟩

end Go.Proofs.Ytannipfohicpmaa
