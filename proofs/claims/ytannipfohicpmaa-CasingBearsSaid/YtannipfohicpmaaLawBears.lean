/- The law CasingBears, walked. -/
import Derived.Test.YtannipfohicpmaaRefBears2
import Derived.Test.YtannipfohicpmaaRefCost
import Derived.Test.YtannipfohicpmaaSame
import Derived.Test.YtannipfohicpmaaSmall
import Derived.Test.YtannipfohicpmaaOpen
import Derived.Test.YtannipfohicpmaaChoose
import Derived.Test.YtannipfohicpmaaAwake
namespace Go.Proofs.Ytannipfohicpmaa
open Go.RowKit Go.Shelf Mpl

theorem pulls_short (j : Job) (l : List Int) (h : l.length ≤ 8) : (pullsOf j l).length ≤ 1000 := by
  unfold pullsOf
  split
  · simp; omega
  · simp

set_option maxHeartbeats 8000000 in
set_option maxRecDepth 100000 in
theorem walk_CasingBears (j : Job) (v0 : Value) (l : List Int) (A : Option Addr) (c : Nat) (w : World) (hv : JobV w w.heap.size v0 j) (_hin : JobIn j) (hl : Ints w w.heap.size A l) (_hlin : IntsIn l) (_hc : l.length ≤ c) (_hm : c ≤ maxLen) :
    Calls Try.prog 4 #[v0, .slice A l.length c] w fun e w' => e = .returned (.bool true) ∧ Below w.heap.size w w' := by
  have HV := Lib.hid hv
  have HL := Lib.hid hl
  have HSM := Lib.hid (fun W (hW : Below w.heap.size w W) => law05_small j _ W (HV.out.below hW))
  obtain ⟨AE, cE, AL, cL, AG, cG, rfl, _, _, _, _⟩ := hv
  clear hl _hin _hlin
  have HB := Lib.hid ((Below.refl w.heap.size w).alloc (Nat.le_refl _) (.cells #[.slice AE j.Ends.length cE, .slice AL j.Loads.length cL, .slice AG j.Grades.length cG, .int .i64 j.Factor, .int .i64 j.Over] 36))
  have B0 := Lib.hid (Box.new w 36 #[.slice AE j.Ends.length cE, .slice AL j.Loads.length cL, .slice AG j.Grades.length cG, .int .i64 j.Factor, .int .i64 j.Over] rfl)
  cases hs : smallJob j
  · rw [hs] at HSM
    clear hs
    generalize j.Ends.length = nE at *
    generalize j.Loads.length = nL at *
    generalize j.Grades.length = nG at *
    generalize l.length = nl at *
    go_enter Try.func4, Try.ntmps4
    go_wp2_with fail
    refine (HSM.out _ HB.out).mono ?_
    rintro e w1 ⟨rfl, hb1⟩
    have HB1 := Lib.hid (HB.out.trans (hb1.mono HB.out.size))
    go_wp2_with fail
    refine (law05_awake _).mono ?_
    rintro e w2 ⟨rfl, hb2⟩
    go_wp2_with fail
    go_ret
    exact ⟨rfl, HB1.out.trans (hb2.mono HB1.out.size)⟩
  rw [hs] at HSM
  clear hs
  by_cases h8 : l.length ≤ 8
  case neg =>
    generalize j.Ends.length = nE at *
    generalize j.Loads.length = nL at *
    generalize j.Grades.length = nG at *
    generalize l.length = nl at *
    have t1 : decide ((8 : Int) < (nl : Int)) = true := decide_eq_true (by omega)
    have t1' : decide (8 < nl) = true := decide_eq_true (by omega)
    go_enter Try.func4, Try.ntmps4
    go_wp2_with fail
    refine (HSM.out _ HB.out).mono ?_
    rintro e w1 ⟨rfl, hb1⟩
    have HB1 := Lib.hid (HB.out.trans (hb1.mono HB.out.size))
    go_wp2_with fail
    refine (law05_awake _).mono ?_
    rintro e w2 ⟨rfl, hb2⟩
    go_wp2_with fail
    go_ret
    exact ⟨rfl, HB1.out.trans (hb2.mono HB1.out.size)⟩
  have HBE := Lib.hid (fun A c W (hW : Below w.heap.size w W) (hI : Ints W W.heap.size A l) => casing_Bears j l _ A c W (HV.out.below hW) hI (by omega))
  have HBR := Lib.hid (fun W (hW : Below w.heap.size w W) => ref05_Bears j l _ A c W (HV.out.below hW) (HL.out.up hW hW.size) (by omega))
  have HPU := Lib.hid (fun A c W (hW : Below w.heap.size w W) (hI : Ints W W.heap.size A l) => casing_Pulls j l _ A c W (HV.out.below hW) hI (by omega))
  have HPR := Lib.hid (fun W (hW : Below w.heap.size w W) => ref05_Pulls j l _ A c W (HV.out.below hW) (HL.out.up hW hW.size) (by omega))
  have HCO := Lib.hid (fun A c W (hW : Below w.heap.size w W) (hI : Ints W W.heap.size A l) => casing_Cost j l _ A c W (HV.out.below hW) hI (by omega))
  have HCR := Lib.hid (fun W (hW : Below w.heap.size w W) => ref05_Cost j l _ A c W (HV.out.below hW) (HL.out.up hW hW.size) (by omega))
  have HSI := Lib.hid (fun A' c' W (hW : Below w.heap.size w W) (hI : Ints W W.heap.size A' l) => kit_SameInts l l A' A c' c W hI (HL.out.up hW hW.size) (by omega) (by omega))
  have hps := pulls_short j l h8
  have HSL := Lib.hid (fun A B c d W hx hy => kit_SameLongs (pullsOf j l) (pullsOf j l) A B c d W hx hy hps hps)
  rw [show decide (l = l) = true by simp] at HSI
  rw [show decide (pullsOf j l = pullsOf j l) = true by simp] at HSL
  clear hps
  have HOne := Lib.hid (int_one l)
  have HSRC := Lib.hid (fun W (hW : Below w.heap.size w W) => (HL.out.up hW hW.size).src)
  generalize pullsOf j l = ps at *
  generalize cost j l = co at *
  generalize (bears j l).1 = r0 at *
  generalize (bears j l).2.1 = r1 at *
  generalize (bears j l).2.2 = r2 at *
  have HOWN := Lib.hid (fun (W : World) (base : Nat) v (h : W.ownsRow base 3 1 v l.length (l.map (Value.int .i64))) => Ints.own h)
  generalize l.map (Value.int .i64) = cells at *
  generalize j.Ends.length = nE at *
  generalize j.Loads.length = nL at *
  generalize j.Grades.length = nG at *
  generalize l.length = nl at *
  generalize ps.length = np at *
  have t1 : decide ((8 : Int) < (nl : Int)) = false := decide_eq_false (by omega)
  have t1' : decide (8 < nl) = false := decide_eq_false (by omega)
  have e0 : (r0 == r0) = true := beq_self_eq_true r0
  have e1 : (r1 == r1) = true := beq_self_eq_true r1
  have e2 : (r2 == r2) = true := beq_self_eq_true r2
  have e3 : (co == co) = true := beq_self_eq_true co
  obtain ⟨i0, hi, hz0, hz1, hz2⟩ := info_parts info_int0
  go_enter Try.func4, Try.ntmps4
  go_wp2_with fail
  refine (HSM.out _ HB.out).mono ?_
  rintro e w1 ⟨rfl, hb1⟩
  have HB1 := Lib.hid (HB.out.trans (hb1.mono HB.out.size))
  have X1 := Lib.hid (B0.out.under hb1)
  clear hb1
  have HO : Hid ((w1.alloc (.cells #[] 3)).ownsRow w1.heap.size 3 1 (.slice (some ⟨w1.heap.size, 0, none⟩) 0 0) 0 []) := World.ownsRow_lit w1 #[] 0 (Nat.le_refl _) (by unfold maxLen; omega) rfl
  have HB2 := Lib.hid (HB1.out.alloc HB1.out.size (.cells #[] 3))
  have HB3 := Lib.hid ((Below.refl w1.heap.size w1).alloc (Nat.le_refl _) (.cells #[] 3))
  go_wp2_with (at_builtin; refine wpList_append_list _ rfl _ _ 37 rfl w1.heap.size 3 i0 (.int .i64 0) 1 8 Try.underlying37 hi hz0 hz1 hz2 rfl (by decide) _ 0 [] rfl HO.out A nl c cells rfl (HSRC.out _ HB2.out) HOne.out ?c1 ?c2 ?c3 ?_)
  case c1 => unfold maxLen; omega
  case c2 => omega
  case c3 => simp
  intro v1 w2 hown2 hg2
  have H12 := Lib.hid (below_grown HB3.out HO.out hg2 (by simp))
  have B2 := Lib.hid (HB1.out.trans (H12.out.mono HB1.out.size))
  have X2 := Lib.hid (X1.out.under H12.out)
  obtain ⟨A', c', rfl, _, hI⟩ := HOWN.out _ _ _ hown2
  have HI := Lib.hid hI
  clear hown2 hg2 HO HB2 HB3 HOWN HSRC HOne hI t1 t1' hi hz0 hz1 hz2
  obtain ⟨p0, p1, p2, p3, p4⟩ := job_box X2.out
  go_wp2_with fail
  refine (HBE.out A' c' _ B2.out HI.out).mono ?_
  rintro e w3 ⟨rfl, hb3⟩
  have B3 := Lib.hid (B2.out.trans (hb3.mono B2.out.size))
  have X3 := Lib.hid (X2.out.under hb3)
  have I3 : Hid (Ints w3 w3.heap.size A' l) := HI.out.up hb3 hb3.size
  clear p0 p1 p2 p3 p4 hb3 HI
  obtain ⟨p0, p1, p2, p3, p4⟩ := job_box X3.out
  go_wp2_with fail
  refine (HBR.out _ B3.out).mono ?_
  rintro e w4 ⟨rfl, hb4⟩
  have B4 := Lib.hid (B3.out.trans (hb4.mono B3.out.size))
  have X4 := Lib.hid (X3.out.under hb4)
  have I4 : Hid (Ints w4 w4.heap.size A' l) := I3.out.up hb4 hb4.size
  clear p0 p1 p2 p3 p4 hb4 I3
  obtain ⟨p0, p1, p2, p3, p4⟩ := job_box X4.out
  go_wp2_with fail
  have D4 : Hid (Below w.heap.size w w4.drew) := B4.out.drew
  have J4 : Hid (Ints w4.drew w4.drew.heap.size A' l) := I4.out
  go_region_held3 (fun w' => w'.cell? ⟨w.heap.size, 0, none⟩ = some (.slice AE nE cE) ∧ w'.cell? ⟨w.heap.size, 1, none⟩ = some (.slice AL nL cL) ∧ w'.cell? ⟨w.heap.size, 2, none⟩ = some (.slice AG nG cG) ∧ w'.cell? ⟨w.heap.size, 3, none⟩ = some (.int .i64 j.Factor) ∧ w'.cell? ⟨w.heap.size, 4, none⟩ = some (.int .i64 j.Over))
    (first | exact ⟨p0, p1, p2, p3, p4⟩ | exact job_box X5.out | exact job_box X6.out | exact job_box X7.out | exact job_box X8.out | exact job_box X9.out | exact job_box X10.out | exact job_box X11.out)
    (first
      | (go_at_call 25; refine (HPU.out A' c' _ D4.out J4.out).mono ?_; rintro e w5 ⟨⟨A5, c5, rfl, hI5⟩, hb5⟩; have B5 := Lib.hid (D4.out.trans (hb5.mono D4.out.size)); have X5 := Lib.hid (X4.out.drew.under hb5); have I5 : Hid (Ints w5 w5.heap.size A' l) := J4.out.up hb5 hb5.size; have P5 := Lib.hid hI5; clear hI5 hb5)
      | (go_at_call 26; refine (HPR.out _ B5.out).mono ?_; rintro e w6 ⟨⟨A6, c6, rfl, hI6⟩, hb6⟩; have B6 := Lib.hid (B5.out.trans (hb6.mono B5.out.size)); have X6 := Lib.hid (X5.out.under hb6); have I6 : Hid (Ints w6 w6.heap.size A' l) := I5.out.up hb6 hb6.size; have P6 := Lib.hid hI6; have Q6 : Hid (Ints w6 w6.heap.size A5 ps) := P5.out.up hb6 hb6.size; clear hI6 hb6)
      | (go_at_call 24; refine (HSL.out A5 A6 c5 c6 _ Q6.out P6.out).mono ?_; rintro e w7 ⟨rfl, hb7⟩; have B7 := Lib.hid (B6.out.trans (hb7.mono B6.out.size)); have X7 := Lib.hid (X6.out.under hb7); have I7 : Hid (Ints w7 w7.heap.size A' l) := I6.out.up hb7 hb7.size; clear hb7)
      | (go_at_call 27; refine (HCO.out A' c' _ B7.out I7.out).mono ?_; rintro e w8 ⟨rfl, hb8⟩; have B8 := Lib.hid (B7.out.trans (hb8.mono B7.out.size)); have X8 := Lib.hid (X7.out.under hb8); have I8 : Hid (Ints w8 w8.heap.size A' l) := I7.out.up hb8 hb8.size; clear hb8)
      | (go_at_call 28; refine (HCR.out _ B8.out).mono ?_; rintro e w9 ⟨rfl, hb9⟩; have B9 := Lib.hid (B8.out.trans (hb9.mono B8.out.size)); have X9 := Lib.hid (X8.out.under hb9); have I9 : Hid (Ints w9 w9.heap.size A' l) := I8.out.up hb9 hb9.size; clear hb9)
      | (go_at_call 29; refine (HSI.out A' c' _ B9.out I9.out).mono ?_; rintro e w10 ⟨rfl, hb10⟩; have B10 := Lib.hid (B9.out.trans (hb10.mono B9.out.size)); have X10 := Lib.hid (X9.out.under hb10); clear hb10)
      | (go_at_call 14; refine (law05_awake _).mono ?_; rintro e w11 ⟨rfl, hb11⟩; have B11 := Lib.hid (B10.out.trans (hb11.mono B10.out.size)); have X11 := Lib.hid (X10.out.under hb11); clear hb11)
      | fail)
  go_wp2_with fail
  go_ret
  exact ⟨rfl, B11.out⟩

end Go.Proofs.Ytannipfohicpmaa
