/- Walks of the reference: what tests have proven. -/
import Derived.Test.YtannipfohicpmaaProven
import Derived.Deep.QuietTactic
import Derived.BigQuiet
namespace Go.Proofs.Ytannipfohicpmaa
open Go.RowKit Go.Shelf Mpl

theorem u64_sub_u64 {a b : Int} (ha : inI64 a) (hb : inI64 b) (h : b ≤ a) : IntKind.u64.wrap (IntKind.u64.wrap a - IntKind.u64.wrap b) = a - b := by
  unfold inI64 at ha hb
  simp [IntKind.wrap, IntKind.bits, IntKind.signed]
  omega

theorem any_ts (q : Test → Bool) (l : List Test) (k : Nat) (h : k < l.length) : (l.drop k).any q = (q (ts l k) || (l.drop (k + 1)).any q) := by
  rw [List.drop_eq_getElem_cons h, List.any_cons]
  simp [ts, h]

/-- a test that did not hold, from one tick to another -/
def fails (a now : Int) (x : Test) : Bool := !x.Held && within x.Tick a now

set_option maxHeartbeats 4000000 in
set_option maxRecDepth 100000 in
theorem ref05_Proven (l : List Test) (need now age : Int) (A : Option Addr) (c : Nat) (w : World) (hT : Tests w w.heap.size A l) (iage : inI64 age) (inow : inI64 now) (itick : ticksIn l) (hlen : l.length ≤ 1000) :
    Calls Try.prog 33 #[.slice A l.length c, .int .i64 need, .int .i64 now, .int .i64 age] w fun e w' => e = .returned (.bool (proven l need now age)) ∧ Below w.heap.size w w' := by
  rw [proven_eq]
  by_cases h1 : 24 < l.length
  · have h1' : decide ((24 : Int) < (l.length : Int)) = true := decide_eq_true (by omega)
    rw [if_pos (Or.inl h1)]
    clear hT itick iage inow
    generalize l.length = nl at *
    go_enter Try.func33, Try.ntmps33
    go_wp2_with fail
    go_ret
    exact ⟨rfl, (by repeat (first | exact Below.refl _ _ | assumption | refine Below.setCell ?_ (by first | (simp; done) | (simp; omega)) _ | refine belowDrewN ?_ _ | refine Below.drew ?_ | refine Below.alloc ?_ (by first | (simp; done) | (simp; omega)) _))⟩
  have h1' : decide ((24 : Int) < (l.length : Int)) = false := decide_eq_false (by omega)
  by_cases h2 : age < 0
  · have h2' : decide (age < 0) = true := decide_eq_true (by omega)
    rw [if_pos (Or.inr h2)]
    clear hT itick iage inow
    generalize l.length = nl at *
    go_enter Try.func33, Try.ntmps33
    go_wp2_with fail
    go_ret
    exact ⟨rfl, (by repeat (first | exact Below.refl _ _ | assumption | refine Below.setCell ?_ (by first | (simp; done) | (simp; omega)) _ | refine belowDrewN ?_ _ | refine Below.drew ?_ | refine Below.alloc ?_ (by first | (simp; done) | (simp; omega)) _))⟩
  have h2' : decide (age < 0) = false := decide_eq_false (by omega)
  rw [if_neg (by omega)]
  have HT := Lib.hid hT
  have ITICK := Lib.hid itick
  have INOW := Lib.hid inow
  have hca : IntKind.u64.wrap age = age := IntWalk.u64_in _ (by unfold inI64 at iage; omega)
  clear hT itick inow iage
  generalize hres : l.any (provesAt l need now age) = res
  have HR := Lib.hid hres
  clear hres
  generalize hnl : l.length = nl at *
  have HNL := Lib.hid hnl
  clear hnl
  go_enter Try.func33, Try.ntmps33
  go_wp2_with fail
  go_loopw [9] (fun s9 wr => ∃ i : Nat, i ≤ nl ∧ s9 = .int .i64 i ∧ Hid ((l.drop i).any (provesAt l need now age) = res) ∧ Hid (Below w.heap.size w wr)) (fun s9 _ => nl - (intOf s9).toNat)
  case atStart => exact ⟨0, Nat.zero_le _, rfl, HR, Below.refl _ w⟩
  case round =>
    obtain ⟨i, hi, rfl, hr, BW⟩ := hrel
    by_cases hlt : i < nl
    · obtain ⟨b, off, rfl, hb, hc⟩ := HT.out (by rw [HNL.out]; omega)
      have HC := Lib.hid hc
      obtain ⟨c0, c1, c2⟩ := hc i (by rw [HNL.out]; omega)
      have d0 := oldCell BW.out hb c0
      have d1 := oldCell BW.out hb c1
      have d2 := oldCell BW.out hb c2
      have C2 := Lib.hid c2
      clear hc c0 c1 c2
      have hstep := Lib.hid (any_ts (provesAt l need now age) l i (by rw [HNL.out]; exact hlt))
      have hP : Hid (provesAt l need now age (ts l i) = ((ts l i).Held && decide (need ≤ (ts l i).P) && decide ((ts l i).Tick ≤ now) && decide (now - (ts l i).Tick ≤ age) && !(l.any (fails (ts l i).Tick now)))) := rfl
      generalize provesAt l need now age (ts l i) = pr at *
      have hcv := fun h : (ts l i).Tick ≤ now => u64_sub_u64 INOW.out (ITICK.out i) h
      have hno : pr = false → (l.drop (i + 1)).any (provesAt l need now age) = res := fun h => by rw [← hr.out, hstep.out, h, Bool.false_or]
      have HNO := Lib.hid hno
      clear hno
      generalize (ts l i).P = tp at *
      generalize (ts l i).Held = th at *
      generalize (ts l i).Tick = tt at *
      by_cases g0 : th = true
      case neg =>
        obtain rfl : th = false := by simpa using g0
        go_wp2_with fail
        go_roundw
        case rel => exact ⟨i + 1, hlt, by go_num, HNO.out (by rw [hP.out]; rfl), BW.out⟩
        case measure => simp [intOf]; omega
      subst g0
      by_cases g1 : need ≤ tp
      case neg =>
        have g1' : decide (tp < need) = true := decide_eq_true (by omega)
        go_wp2_with fail
        go_roundw
        case rel => exact ⟨i + 1, hlt, by go_num, HNO.out (by rw [hP.out]; simp; omega), BW.out⟩
        case measure => simp [intOf]; omega
      have g1' : decide (tp < need) = false := decide_eq_false (by omega)
      by_cases g2 : tt ≤ now
      case neg =>
        have g2' : decide (now < tt) = true := decide_eq_true (by omega)
        go_wp2_with fail
        go_roundw
        case rel => exact ⟨i + 1, hlt, by go_num, HNO.out (by rw [hP.out]; simp; omega), BW.out⟩
        case measure => simp [intOf]; omega
      have g2' : decide (now < tt) = false := decide_eq_false (by omega)
      replace hcv := hcv g2
      by_cases g3 : now - tt ≤ age
      case neg =>
        have g3' : decide (age < now - tt) = true := decide_eq_true (by omega)
        go_wp2_with fail
        go_roundw
        case rel => exact ⟨i + 1, hlt, by go_num, HNO.out (by rw [hP.out]; simp; omega), BW.out⟩
        case measure => simp [intOf]; omega
      have g3' : decide (age < now - tt) = false := decide_eq_false (by omega)
      have hP2 : Hid (pr = !(l.any (fails tt now))) := by unfold Hid; rw [hP.out]; simp [g1, g2, g3]
      clear hP
      go_wp2_with fail
      obtain ⟨wo, rfl⟩ : ∃ wo : World, wo = wr := ⟨_, rfl⟩
      clear d0 d1 d2 hcv
      go_loopw [10, 11] (fun s10 s11 wr => ∃ (k : Nat) (bad : Bool), k ≤ nl ∧ s11 = .int .i64 k ∧ s10 = .bool bad ∧ Hid ((bad || (l.drop k).any (fails tt now)) = l.any (fails tt now)) ∧ Hid (Below w.heap.size w wr)) (fun _ s11 _ => nl - (intOf s11).toNat)
      case atStart => exact ⟨0, false, Nat.zero_le _, rfl, rfl, rfl, BW.out⟩
      case round =>
        obtain ⟨k, bad, hk, rfl, rfl, hq, BV⟩ := hrel
        by_cases hlt2 : k < nl
        · obtain ⟨c0, c1, c2⟩ := HC.out k (by rw [HNL.out]; omega)
          have e1 := oldCell BV.out hb c1
          have e2 := oldCell BV.out hb c2
          have e3 := oldCell BV.out hb C2.out
          have hs := Lib.hid (any_ts (fails tt now) l k (by rw [HNL.out]; exact hlt2))
          have hf : Hid (fails tt now (ts l k) = (!(ts l k).Held && within (ts l k).Tick tt now)) := rfl
          have hlt2' : decide ((k : Int) < (nl : Int)) = true := decide_eq_true (by omega)
          clear c0 c1 c2
          generalize (ts l k).Held = xh at *
          generalize (ts l k).Tick = xt at *
          have fin : ∀ b : Bool, fails tt now (ts l k) = b → ((bad || b) || (l.drop (k + 1)).any (fails tt now)) = l.any (fails tt now) := fun b h => by rw [← hq.out, hs.out, h, Bool.or_assoc]
          have FIN := Lib.hid fin
          clear fin
          cases bad
          · cases xh
            · by_cases g4 : tt ≤ xt
              · have g4' : decide (tt ≤ xt) = true := decide_eq_true g4
                by_cases g5 : xt ≤ now
                · have g5' : decide (xt ≤ now) = true := decide_eq_true g5
                  go_wp2_with fail
                  go_quiet (fail)
                  go_wp2_with fail
                  go_roundw
                  case rel => exact ⟨k + 1, true, hlt2, by go_num, rfl, FIN.out true (by rw [hf.out]; simp [within, g4, g5]), belowDrewN BV.out _⟩
                  case measure => simp [intOf]; omega
                · have g5' : decide (xt ≤ now) = false := decide_eq_false g5
                  go_wp2_with fail
                  go_quiet (fail)
                  go_wp2_with fail
                  go_roundw
                  case rel => exact ⟨k + 1, false, hlt2, by go_num, rfl, FIN.out false (by rw [hf.out]; simp [within, g5]), belowDrewN BV.out _⟩
                  case measure => simp [intOf]; omega
              · have g4' : decide (tt ≤ xt) = false := decide_eq_false g4
                go_wp2_with fail
                go_quiet (fail)
                go_wp2_with fail
                go_roundw
                case rel => exact ⟨k + 1, false, hlt2, by go_num, rfl, FIN.out false (by rw [hf.out]; simp [within]; omega), belowDrewN BV.out _⟩
                case measure => simp [intOf]; omega
            · go_wp2_with fail
              go_quiet (fail)
              go_wp2_with fail
              go_roundw
              case rel => exact ⟨k + 1, false, hlt2, by go_num, rfl, FIN.out false (by rw [hf.out]; rfl), belowDrewN BV.out _⟩
              case measure => simp [intOf]; omega
          · go_wp2_with fail
            go_quiet (fail)
            go_wp2_with fail
            go_roundw
            case rel => exact ⟨k + 1, true, hlt2, by go_num, rfl, by have := hq.out; unfold Hid; rw [Bool.true_or] at this ⊢; exact this, belowDrewN BV.out _⟩
            case measure => simp [intOf]; omega
        · have hnk : decide ((k : Int) < (nl : Int)) = false := decide_eq_false (by omega)
          have hq2 : Hid (l.any (fails tt now) = bad) := by
            unfold Hid
            rw [← hq.out, List.drop_eq_nil_of_le (by rw [HNL.out]; omega)]
            simp
          cases bad
          · go_wp2_with fail
            go_ret
            refine ⟨ret_bool ?_, BV.out⟩
            rw [← hr.out, hstep.out, hP2.out, hq2.out]
            rfl
          · go_wp2_with fail
            go_roundw
            case rel => exact ⟨i + 1, hlt, by go_num, HNO.out (by rw [hP2.out, hq2.out]; rfl), BV.out⟩
            case measure => simp [intOf]; omega
    · go_wp2_with fail
      go_ret
      refine ⟨ret_bool ?_, BW.out⟩
      rw [← hr.out, List.drop_eq_nil_of_le (by rw [HNL.out]; omega)]
      rfl

end Go.Proofs.Ytannipfohicpmaa
