/- The law CasingDesign, walked. -/
import Derived.Test.YtannipfohicpmaaDesign
import Derived.Test.YtannipfohicpmaaChoose2
import Derived.Test.YtannipfohicpmaaRefCheck2
import Derived.Test.YtannipfohicpmaaMod
import Derived.Test.YtannipfohicpmaaAwake
import Derived.Deep.DeepCutAuto
import Derived.Test.YtannipfohicpmaaInv2
namespace Go.Proofs.Ytannipfohicpmaa
open Go.RowKit Go.Shelf Mpl

theorem allocH {a w : World} (h : Hid (Below a.heap.size a w)) (o : Obj) : Below a.heap.size a (w.alloc o) := h.out.alloc h.out.size o
theorem drewH {a w : World} (h : Hid (Below a.heap.size a w)) : Below a.heap.size a w.drew := h.out.drew
theorem setH {a w : World} (h : Hid (Below a.heap.size a w)) {p : Addr} (hp : a.heap.size ≤ p.block) (u : Value) : Below a.heap.size a (w.setCell p u) := h.out.setCell hp u
theorem stepH {a w w' : World} (h : Hid (Below a.heap.size a w)) (hb : Below w.heap.size w w') : Below a.heap.size a w' := h.out.trans (hb.mono h.out.size)

theorem set2_get {w : World} {b : Nat} {x y u v : Value} (h0 : w.cell? ⟨b, 0, none⟩ = some x) (h1 : w.cell? ⟨b, 1, none⟩ = some y) :
    ((w.setCell ⟨b, 0, none⟩ u).setCell ⟨b, 1, none⟩ v).cell? ⟨b, 0, none⟩ = some u ∧ ((w.setCell ⟨b, 0, none⟩ u).setCell ⟨b, 1, none⟩ v).cell? ⟨b, 1, none⟩ = some v := by
  obtain ⟨v', hy'⟩ := cell?_setCell_some (w := w) (p := ⟨b, 0, none⟩) (x := u) (q := ⟨b, 1, none⟩) (v := y) h1
  constructor
  · go_simp
  · go_simp

abbrev DesS (wr : World) (b1 sb so k : Nat) (vL vI vO : Value) (w' : World) : Prop :=
  w'.cell? ⟨b1, 1, none⟩ = some vL ∧ w'.cell? ⟨sb, so + k * 2, none⟩ = some vI ∧ w'.cell? ⟨sb, so + k * 2 + 1, none⟩ = some vO ∧ wr.heap.size ≤ w'.heap.size ∧ Hid (Below wr.heap.size wr w')

theorem at_actD {P : Program} {md : Region.Mode} {ops : Array Oper} {Q : Exit → Act → World → Prop} {S : World → Prop} {z m : Nat} {b : Array Bool} {a : Act} {W : World} (H : ∀ a', a = a' → AnyBut P md ops Q S z m b a' W) : AnyBut P md ops Q S z m b a W := H a rfl
theorem DesS.keep {wr W : World} {b1 sb so k : Nat} {vL vI vO : Value} (h : DesS wr b1 sb so k vL vI vO W) : Below wr.heap.size wr W := h.2.2.2.2.out
theorem two_of_size {cs : Array Value} {a b : Value} (h : cs.size = (#[a, b] : Array Value).size) : ∃ x y, cs = #[x, y] := by
  obtain ⟨l⟩ := cs
  match l, h with
  | [x, y], _ => exact ⟨x, y, rfl⟩
def keyDes (i : Nat) (d1 d2 a1 a2 : Bool) : Bool := (i == 7 && !d1) || (i == 15 && d1 && !d2) || (i == 16 && !a1) || (i == 17 && !a2) || (i == 18 && d1 && a1) || (i == 19 && d2 && a2)
theorem rng_box2 {w : World} {g : Nat} {a b : Value} (h : Box w g 66 #[a, b]) : w.cell? ⟨g, 0, none⟩ = some a ∧ w.cell? ⟨g, 1, none⟩ = some b := ⟨h.cell 0, h.cell 1⟩
theorem rng_free2 {w : World} {g : Nat} {a b : Value} (h : Box w g 66 #[a, b]) : w.frozen? ⟨g, 0, none⟩ = false ∧ w.frozen? ⟨g, 1, none⟩ = false := ⟨h.frozen 0, h.frozen 1⟩
theorem rng_put {W : World} {g : Nat} {x y : Value} (hx : Box W g 66 #[x, y]) (a b : Value) : Box ((W.setCell ⟨g, 0, none⟩ a).setCell ⟨g, 1, none⟩ b) g 66 #[a, b] := by simpa using (hx.set_ 0 a).set_ 1 b
theorem put_far {W : World} {g : Nat} (a b : Value) (g' t' : Nat) (cs' : Array Value) (hne : g' ≠ g) (h : Box W g' t' cs') : Box ((W.setCell ⟨g, 0, none⟩ a).setCell ⟨g, 1, none⟩ b) g' t' cs' := (h.far hne _).far hne _

set_option maxHeartbeats 8000000 in
set_option maxRecDepth 100000 in
theorem walk_CasingDesign (x : Sheet) (v0 : Value) (sec z : Int) (w : World) (hv : SheetV w w.heap.size v0 x) (hin : SheetIn x) (hsec : inI64 sec) (hz : inI64 z) :
    Calls Try.prog 11 #[v0, .int .i64 sec, .int .i64 z] w fun e w' => e = .returned (.bool true) ∧ Below w.heap.size w w' := by
  have HJ := Lib.hid (fun W (hW : Below w.heap.size w W) => kit_Job x v0 W (hv.up hW hW.size) hin)
  obtain ⟨AE, cE, AL, cL, AG, cG, rfl, _, _, _⟩ := hv
  have HB0 := Lib.hid ((Below.refl w.heap.size w).alloc (Nat.le_refl _) (.cells #[.slice AE x.Ends.length cE, .slice AL x.Loads.length cL, .slice AG x.Grades.length cG, .int .i64 x.Factor, .int .i64 x.Over] 48))
  have HSEC := Lib.hid hsec
  have HZ := Lib.hid hz
  clear hin hsec hz
  generalize x.Ends.length = nE0 at *
  generalize x.Loads.length = nL0 at *
  generalize x.Grades.length = nG0 at *
  go_enter Try.func11, Try.ntmps11
  go_wp2_with fail
  refine (HJ.out _ HB0.out).mono ?_
  rintro e w1 ⟨⟨v, j, rfl, hjv, hmade⟩, hb1⟩
  have hB1 := HB0.out.trans (hb1.mono HB0.out.size)
  have HJV := Lib.hid hjv
  obtain ⟨aE, eE, aL, eL, aG, eG, rfl, _, hE, hL, hG⟩ := hjv
  have HE := Lib.hid hE
  have HL := Lib.hid hL
  have HG := Lib.hid hG
  have G := Lib.hid (checkJob_good hmade.ok)
  have hn1 := hmade.ends
  have hn2 := G.out.ends.pos
  have hg1 := hmade.grades
  have hg2 := G.out.gpos
  have hl1 := hmade.loads
  have HM := Lib.hid hmade
  clear hb1 hmade HJ HB0 hE hL hG
  have HPU := Lib.hid (fun l A c W (hW : Below w1.heap.size w1 W) (hl : Ints W W.heap.size A l) (hlen : l.length = j.Ends.length) => casing_Pulls j l _ A c W (HJV.out.below hW) hl (by omega))
  have HCS := Lib.hid (fun W (hW : Below w1.heap.size w1 W) => casing_Choose j _ W (HJV.out.below hW))
  generalize hnE : j.Ends.length = nE at *
  generalize hnL : j.Loads.length = nL at *
  generalize hnG : j.Grades.length = nG at *
  have HNE := Lib.hid hnE
  have HNG := Lib.hid hnG
  have HNL := Lib.hid hnL
  clear hnE hnG hnL
  obtain ⟨w2, hw2⟩ : ∃ w2, w1.alloc (.cells #[.slice aE nE eE, .slice aL nL eL, .slice aG nG eG, .int .i64 j.Factor, .int .i64 j.Over] 36) = w2 := ⟨_, rfl⟩
  have b0 : Box w2 w1.heap.size 36 #[.slice aE nE eE, .slice aL nL eL, .slice aG nG eG, .int .i64 j.Factor, .int .i64 j.Over] := by rw [← hw2]; exact Box.new _ _ _ rfl
  have hB2 : Below w1.heap.size w1 w2 := by rw [← hw2]; exact (by repeat (first | exact Below.refl _ _ | assumption | refine Below.setCell ?_ (by first | (simp; done) | (simp; omega)) _ | refine belowDrewN ?_ _ | refine Below.drew ?_ | refine Below.alloc ?_ (by first | (simp; done) | (simp; omega)) _))
  have HW2 := Lib.hid hw2
  have X2 := Lib.hid b0
  have HB2 := Lib.hid hB2
  have HB1 := Lib.hid hB1
  clear hw2 b0 hB2 hB1
  obtain ⟨q0, q1, q2, q3, q4⟩ := job_box X2.out
  go_wp2_with fail
  rw [HW2.out]
  go_wp2_with fail
  refine (HCS.out _ HB2.out).mono ?_
  rintro e w3 ⟨hres, hb3⟩
  have B3 := Lib.hid (HB2.out.trans (hb3.mono HB2.out.size))
  have X3 := Lib.hid (X2.out.under hb3)
  clear hb3 q0 q1 q2 q3 q4 HB2 X2 HCS
  cases hch : chooseOf j with
  | none =>
    rw [hch] at hres
    subst hres
    clear hch
    go_wp2_with fail
    refine (law05_awake _).mono ?_
    rintro e w4 ⟨rfl, hb4⟩
    have h1 := HB1.out.trans (B3.out.mono HB1.out.size)
    go_wp2_with fail
    go_ret
    exact ⟨rfl, h1.trans (hb4.mono h1.size)⟩
  | some l =>
    rw [hch] at hres
    obtain ⟨A3, c3, rfl, hI3⟩ := hres
    obtain ⟨hcho, hbear, _⟩ := choose_some HM.out.ok hch
    have hC := isChoice_chosen hcho
    have hwhy : ∀ t, t < l.length → whyAt j l t = 0 := by
      rcases bears_shape j l 0 l.length with ⟨_, h⟩ | ⟨t, _, _, _, h⟩
      · exact fun t ht => h t (Nat.zero_le _) (by omega)
      · rw [(bear_iff j l).1 hbear] at h
        have := congrArg Prod.fst h
        simp at this
    have hlen : l.length = nE := by rw [← HNE.out]; exact hC.same
    have HI3 := Lib.hid hI3
    have HWHY := Lib.hid hwhy
    have HC := Lib.hid hC
    have hpl := pulls_len hcho
    have HPP := Lib.hid (fun t (ht : t < l.length) => pick_pulls hcho t ht)
    have HPU3 := Lib.hid (HPU.out l A3 c3 w3 B3.out hI3 hlen)
    rw [hpl, hlen] at HPU3
    rw [hlen] at hpl
    have HPL := Lib.hid hpl
    have HLEN := Lib.hid hlen
    rw [hlen]
    clear hch hI3 hcho hbear hC hwhy hpl hlen HPU
    generalize pullsOf j l = ps at *
    obtain ⟨q0, q1, q2, q3, q4⟩ := job_box X3.out
    have t1 : ((nE : Int) != (nE : Int)) = false := by simp
    go_wp2_with fail
    refine HPU3.out.mono ?_
    rintro e w4 ⟨⟨A4, c4, rfl, hI4⟩, hb4⟩
    have B4 := Lib.hid (B3.out.trans (hb4.mono B3.out.size))
    have X4 := Lib.hid (X3.out.under hb4)
    have HI4 := Lib.hid hI4
    replace HI3 := Lib.hid (HI3.out.up hb4 hb4.size)
    clear hb4 q0 q1 q2 q3 q4 B3 X3 hI4 HPU3
    obtain ⟨q0, q1, q2, q3, q4⟩ := job_box X4.out
    have HMO := Lib.hid (fun W => kit_Mod sec (nE : Int) W HSEC.out (by omega) (by omega))
    have hm0 := Int.emod_nonneg sec (show (nE : Int) ≠ 0 by omega)
    have hm1 := Int.emod_lt_of_pos sec (show (0 : Int) < (nE : Int) by omega)
    generalize sec % (nE : Int) = iz at *
    obtain ⟨i, rfl⟩ := Int.eq_ofNat_of_zero_le hm0
    have hi : i < nE := by omega
    clear hm0 hm1
    go_wp2_with fail
    refine (HMO.out _).mono ?_
    rintro e w' ⟨rfl, rfl⟩
    clear HMO
    -- the depth at which the section begins
    obtain ⟨eb, eo, rfl, heb, hec⟩ := HE.out (by rw [HNE.out]; omega)
    have ci := oldCell B4.out heb (hec i (by rw [HNE.out]; exact hi))
    have hT0 : 0 ≤ topOf j.Ends i := G.out.ends.top0 i (by rw [HNE.out]; exact hi)
    have hTb : topOf j.Ends i < pick j.Ends i := G.out.ends.up i (by rw [HNE.out]; exact hi)
    have hb2 : pick j.Ends i ≤ 1048576 := (G.out.ends.ends i (by rw [HNE.out]; exact hi)).2
    have hct : Hid (0 < i → w4.cell? ⟨eb, eo + (i - 1), none⟩ = some (.int .i64 (topOf j.Ends i))) := fun h => by
      rw [topOf, if_neg (by omega)]
      exact oldCell B4.out heb (hec (i - 1) (by rw [HNE.out]; omega))
    have hc0 : Hid (i = 0 → topOf j.Ends i = 0) := fun h => by rw [topOf, if_pos h]
    have HDES := Lib.hid (fun (y : Int) h0 h1 => design_at (z := y) HC.out (by rw [HLEN.out]; exact hi) (HWHY.out i (by rw [HLEN.out]; exact hi)) (pullOf_bounds HC.out i).1 h0 h1)
    have hTd : Hid (top j i = topOf j.Ends i) := rfl
    have hBd : Hid (bottom j i = pick j.Ends i) := rfl
    rw [hTd.out, hBd.out] at HDES
    clear hec hTd hBd
    generalize topOf j.Ends i = T at *
    generalize pick j.Ends i = Bt at *
    go_upto_if 55 with fail
    go_cut [12] (fun s12 wx => s12 = .int .i64 T ∧ Hid (wx = w4))
    case first =>
      by_cases h0 : 0 < i
      · have z0 := hct.out h0
        have d0 : decide ((0 : Int) < (i : Int)) = true := decide_eq_true (by omega)
        have d0' : decide (0 < i) = true := decide_eq_true h0
        have z1 : (i : Int) - 1 < (nE : Int) := by omega
        have z2 : (0 : Int) ≤ (i : Int) - 1 := by omega
        have z3 : ((i : Int) - 1).toNat = i - 1 := by omega
        have z4 : (1 : Int) ≤ (i : Int) := by omega
        have z5 : 1 ≤ i := h0
        go_wp2_with fail
        go_meet
        exact ⟨rfl, rfl⟩
      · have d0 : decide ((0 : Int) < (i : Int)) = false := decide_eq_false (by omega)
        have d0' : decide (0 < i) = false := decide_eq_false h0
        have hT := Lib.hid (hc0.out (by omega))
        go_wp2_with fail
        go_meet
        exact ⟨by rw [hT.out], rfl⟩
    case rest =>
      obtain ⟨rfl, hwc⟩ := hcut
      obtain rfl := hwc.out
      clear hwc hct hc0
      have hd1 : 0 < Bt - T + 1 := by omega
      have HMZ := Lib.hid (fun W => kit_Mod64 z (Bt - T + 1) W HZ.out hd1 (by omega))
      have hm0 := Int.emod_nonneg z (show Bt - T + 1 ≠ 0 by omega)
      have hm1 := Int.emod_lt_of_pos z hd1
      generalize z % (Bt - T + 1) = zz at *
      go_wp2_with fail
      refine (HMZ.out _).mono ?_
      rintro e w' ⟨rfl, rfl⟩
      clear HMZ
      go_wp2_with fail
      replace HDES := Lib.hid (HDES.out (T + zz) (by omega) (by omega))
      obtain ⟨lb, lo, rfl, hlb, hlc⟩ := HI3.out (by rw [HLEN.out]; omega)
      obtain ⟨hg0, hg1'⟩ := HC.out.grades i (by rw [HLEN.out]; exact hi)
      have lc := hlc i (by rw [HLEN.out]; exact hi)
      obtain ⟨gb, go, rfl, hgb, hgc⟩ := HG.out (by rw [HNG.out]; omega)
      have GC := Lib.hid (hgc _ hg1')
      have hgi : Hid (pick l i = ((pick l i).toNat : Int)) := by unfold Hid; omega
      have hgn : (pick l i).toNat < nG := by rw [← HNG.out]; exact hg1'
      have hgr : Hid (grade j (pick l i) = gd j.Grades (pick l i).toNat) := rfl
      have HFB := Lib.hid (fair_bounds (HC.out.fair _ hg1'))
      obtain ⟨pb, po, rfl, hpb, hpc⟩ := HI4.out (by rw [HPL.out]; omega)
      have PC := Lib.hid (hpc i (by rw [HPL.out]; exact hi))
      rw [HPP.out i (by rw [HLEN.out]; exact hi)] at PC
      rw [hgr.out] at HDES
      rw [hgi.out] at lc
      clear hlc hgc hg0 hg1' hgi hgr hpc HI3 HI4 HPP HWHY HPL hn2 hg2 hTb hT0 hb2 hd1 hm0 hm1 ci
      generalize (pick l i).toNat = gi at *
      generalize gd j.Grades gi = gx at *
      generalize pullOf j l i = pl at *
      generalize T + zz = y at *
      have t2 : decide ((gi : Int) < 0) = false := decide_eq_false (by omega)
      have t3 : decide ((nG : Int) ≤ (gi : Int)) = false := decide_eq_false (by omega)
      have t3' : decide (nG ≤ gi) = false := decide_eq_false (by omega)
      have z1 : (i : Int) < (nE : Int) := by omega
      have z2 : (0 : Int) ≤ (i : Int) := by omega
      have z3 : ((i : Int)).toNat = i := by omega
      go_quiet (fail)
      go_upto_region 15 with fail
      have BQ : Hid (Below wc.heap.size wc (wc.drewN nq)) := belowDrewN (Below.refl _ _) nq
      generalize wc.drewN nq = wq at *
      have XQ := Lib.hid (X4.out.under BQ.out)
      have p2 := XQ.out.cell 2
      simp only [List.getElem?_toArray, List.getElem?_cons_zero, List.getElem?_cons_succ] at p2
      have p5 := oldCell BQ.out hlb lc
      have BB := Lib.hid (B4.out.trans (BQ.out.mono B4.out.size))
      have p7 := oldCell BB.out hgb GC.out.1
      have p8 := oldCell BB.out hgb GC.out.2.1
      have p9 := oldCell BB.out hgb GC.out.2.2.1
      have p10 := oldCell BB.out hgb GC.out.2.2.2.1
      have p11 := oldCell BB.out hgb GC.out.2.2.2.2
      have y1 : w1.heap.size < wq.heap.size := XQ.out.lt
      have y2 : lb < wq.heap.size := by have := BQ.out.size; omega
      have y3 : gb < wq.heap.size := by have := BB.out.size; omega
      have z4 : (gi : Int) < (nG : Int) := by omega
      have z5 : (0 : Int) ≤ (gi : Int) := by omega
      have z6 : ((gi : Int)).toNat = gi := by omega
      clear q0 q1 q2 q3 q4 lc t1 t2 t3 t3'
      go_cut [13] (fun s13 wx => ∃ g : Nat, s13 = .pointer (some ⟨g, 0, none⟩) ∧ Hid (Box wx g 63 #[.int .i64 gx.Burst, .int .i64 gx.Collapse, .int .i64 gx.Pull, .int .i64 gx.Weight, .int .i64 gx.Cost]) ∧ Hid (Below wc.heap.size wc wx))
      case first =>
        go_region_held3 (fun w' => w'.cell? ⟨w1.heap.size, 2, none⟩ = some (.slice (some ⟨gb, go, none⟩) nG eG) ∧ w'.cell? ⟨lb, lo + i, none⟩ = some (.int .i64 gi) ∧ w'.cell? ⟨gb, go + gi * 5, none⟩ = some (.int .i64 gx.Burst) ∧ w'.cell? ⟨gb, go + gi * 5 + 1, none⟩ = some (.int .i64 gx.Collapse) ∧ w'.cell? ⟨gb, go + gi * 5 + 2, none⟩ = some (.int .i64 gx.Pull) ∧ w'.cell? ⟨gb, go + gi * 5 + 3, none⟩ = some (.int .i64 gx.Weight) ∧ w'.cell? ⟨gb, go + gi * 5 + 4, none⟩ = some (.int .i64 gx.Cost))
          (go_keep) (first | fail)
        all_goals
          go_wp2_with fail
          go_meet
          exact ⟨wq.heap.size, rfl, (Box.new wq _ _ rfl).drew, (BQ.out.alloc BQ.out.size _).drew⟩
      case rest =>
        obtain ⟨g, rfl, hbx, hbe⟩ := hcut
        obtain ⟨wd, rfl⟩ : ∃ wd : World, wd = wc := ⟨_, rfl⟩
        have XD := Lib.hid (X4.out.under hbe.out)
        have BD := Lib.hid (B4.out.trans (hbe.out.mono B4.out.size))
        have PD := Lib.hid (oldCell hbe.out hpb PC.out)
        have hpd : pb < wd.heap.size := by have := hbe.out.size; omega
        have HALL := Lib.hid HDES.out.2
        have hpull := HDES.out.1
        clear p2 p5 p7 p8 p9 p10 p11 y1 y2 y3 z4 z5 z6 z1 z2 z3 X4 XQ BQ BB B4 PC HDES hpb hbe
        go_wp2_with fail
        go_loopw [14] (fun s14 wr => ∃ k : Nat, k ≤ nL ∧ s14 = .int .i64 k ∧ Hid (Below wd.heap.size wd wr)) (fun s14 _ => nL - (intOf s14).toNat)
        case atStart => exact ⟨0, Nat.zero_le _, rfl, Below.refl _ _⟩
        case round =>
          obtain ⟨k, hk, rfl, BW⟩ := hrel
          have XR := Lib.hid (XD.out.under BW.out)
          have BR := Lib.hid (BD.out.trans (BW.out.mono BD.out.size))
          have GR := Lib.hid (hbx.out.under BW.out)
          obtain ⟨q0, q1, q2, q3, q4⟩ := job_box XR.out
          by_cases hlt : k < nL
          · have t1 : decide (k < nL) = true := decide_eq_true hlt
            obtain ⟨sb, so, AI, AO, cI, cO, rfl, hsb, hsc⟩ := HL.out (by rw [HNL.out]; omega)
            obtain ⟨c0, c1, k0, k1⟩ := hsc k (by rw [HNL.out]; exact hlt)
            have LI : Hid (LineV wr wr.heap.size (.agg #[.slice (AI k) (ld j.Loads k).In.length (cI k)]) (ld j.Loads k).In) := ⟨_, _, rfl, k0.up BR.out BR.out.size⟩
            have LO : Hid (LineV wr wr.heap.size (.agg #[.slice (AO k) (ld j.Loads k).Out.length (cO k)]) (ld j.Loads k).Out) := ⟨_, _, rfl, k1.up BR.out BR.out.size⟩
            have HAI := Lib.hid (fun W (hW : DesS wr w1.heap.size sb so k (.slice (some ⟨sb, so, none⟩) nL eL) (.slice (AI k) (ld j.Loads k).In.length (cI k)) (.slice (AO k) (ld j.Loads k).Out.length (cO k)) W) => earth_At (ld j.Loads k).In _ y W (LI.out.up hW.2.2.2.2.out hW.2.2.2.2.out.size))
            have HAO := Lib.hid (fun W (hW : DesS wr w1.heap.size sb so k (.slice (some ⟨sb, so, none⟩) nL eL) (.slice (AI k) (ld j.Loads k).In.length (cI k)) (.slice (AO k) (ld j.Loads k).Out.length (cO k)) W) => earth_At (ld j.Loads k).Out _ y W (LO.out.up hW.2.2.2.2.out hW.2.2.2.2.out.size))
            have hok := G.out.loads k (by rw [HNL.out]; exact hlt)
            have bI := at_bounds hok.1 y
            have bO := at_bounds hok.2 y
            obtain ⟨⟨u1, u2⟩, u3, u4⟩ := HALL.out k (by rw [HNL.out]; exact hlt)
            have d0 := oldCell BR.out hsb c0
            have d1 := oldCell BR.out hsb c1
            clear hsc c0 c1 k0 k1 LI LO hok
            generalize (ld j.Loads k).In.length = nI at *
            generalize (ld j.Loads k).Out.length = nO at *
            generalize (At (ld j.Loads k).In y).Lo = il at *
            generalize (At (ld j.Loads k).In y).Hi = ih at *
            generalize (At (ld j.Loads k).Out y).Lo = ol at *
            generalize (At (ld j.Loads k).Out y).Hi = oh at *
            have HU := Lib.hid (And.intro bI (And.intro bO (And.intro u1 (And.intro u2 (And.intro u3 u4)))))
            have y1 : w1.heap.size < wr.heap.size := XR.out.lt
            have y2 : sb < wr.heap.size := by have := BR.out.size; omega
            have HKEEP : Hid (∀ w', Below wr.heap.size wr w' → DesS wr w1.heap.size sb so k (.slice (some ⟨sb, so, none⟩) nL eL) (.slice (AI k) nI (cI k)) (.slice (AO k) nO (cO k)) w') := fun w' h => ⟨oldCell h y1 q1, oldCell h y2 d0, oldCell h y2 d1, h.size, h⟩
            have HAL := Lib.hid (fun W o (h : DesS wr w1.heap.size sb so k (.slice (some ⟨sb, so, none⟩) nL eL) (.slice (AI k) nI (cI k)) (.slice (AO k) nO (cO k)) W) => HKEEP.out _ (allocH h.2.2.2.2 o))
            have HST := Lib.hid (fun W (p : Addr) u (h : DesS wr w1.heap.size sb so k (.slice (some ⟨sb, so, none⟩) nL eL) (.slice (AI k) nI (cI k)) (.slice (AO k) nO (cO k)) W) (hp : wr.heap.size ≤ p.block) => HKEEP.out _ (setH h.2.2.2.2 hp u))
            have HSP := Lib.hid (fun W W' (h : DesS wr w1.heap.size sb so k (.slice (some ⟨sb, so, none⟩) nL eL) (.slice (AI k) nI (cI k)) (.slice (AO k) nO (cO k)) W) (hb : Below W.heap.size W W') => HKEEP.out _ (stepH h.2.2.2.2 hb))
            have HDR := Lib.hid (fun W (h : DesS wr w1.heap.size sb so k (.slice (some ⟨sb, so, none⟩) nL eL) (.slice (AI k) nI (cI k)) (.slice (AO k) nO (cO k)) W) => HKEEP.out _ (drewH h.2.2.2.2))
            go_upto_region 19 with fail
            have z1 : (k : Int) < (nL : Int) := by omega
            have z2 : (0 : Int) ≤ (k : Int) := by omega
            have z3 : ((k : Int)).toNat = k := by omega
            clear q0 q2 q3 q4 bI bO u1 u2 u3 u4 t1
            go_cut [15, 16] (fun s15 s16 wx => ∃ g5 g6 : Nat, s15 = .pointer (some ⟨g5, 0, none⟩) ∧ s16 = .pointer (some ⟨g6, 0, none⟩) ∧ wx.cell? ⟨g5, 0, none⟩ = some (.int .i64 il) ∧ wx.cell? ⟨g5, 1, none⟩ = some (.int .i64 ih) ∧ wx.cell? ⟨g6, 0, none⟩ = some (.int .i64 ol) ∧ wx.cell? ⟨g6, 1, none⟩ = some (.int .i64 oh) ∧ Hid (Below wr.heap.size wr wx))
            case first =>
              have DS0 : DesS wr w1.heap.size sb so k (.slice (some ⟨sb, so, none⟩) nL eL) (.slice (AI k) nI (cI k)) (.slice (AO k) nO (cO k)) wr.drew := HKEEP.out _ (drewH (Below.refl _ _))
              refine AnyBut.begin (S := fun w' : World => DesS wr w1.heap.size sb so k (.slice (some ⟨sb, so, none⟩) nL eL) (.slice (AI k) nI (cI k)) (.slice (AO k) nO (cO k)) w') (z := 100) mixed ?_
              refine AnyBut.take (i := 0) (v := .pointer (some ⟨w1.heap.size, 1, none⟩)) rfl (by decide +kernel) (by decide +kernel) (by decide +kernel) (by decide +kernel) (fun _ _ _ h => h) DS0 (Or.inl ⟨by simp [Region.wanted], fun w' hw' => by (obtain ⟨s0, s1, s2, s3, s4⟩ := hw'; go_simp)⟩) ?_
              refine AnyBut.take (i := 1) (v := .slice (some ⟨sb, so, none⟩) nL eL) rfl (by decide +kernel) (by decide +kernel) (by decide +kernel) (by decide +kernel) (fun _ _ _ h => h) DS0 (Or.inl ⟨by simp [Region.wanted], fun w' hw' => by (obtain ⟨s0, s1, s2, s3, s4⟩ := hw'; go_simp)⟩) ?_
              refine AnyBut.take (i := 2) (v := .int .i64 k) rfl (by decide +kernel) (by decide +kernel) (by decide +kernel) (by decide +kernel) (fun _ _ _ h => h) DS0 (Or.inl ⟨by simp [Region.wanted], fun w' hw' => by (obtain ⟨s0, s1, s2, s3, s4⟩ := hw'; go_simp)⟩) ?_
              refine AnyBut.take (i := 3) (v := .pointer (some ⟨sb, so + k * 2, none⟩)) rfl (by decide +kernel) (by decide +kernel) (by decide +kernel) (by decide +kernel) (fun _ _ _ h => h) DS0 (Or.inl ⟨by simp [Region.wanted], fun w' hw' => by (obtain ⟨s0, s1, s2, s3, s4⟩ := hw'; go_simp)⟩) ?_
              refine AnyBut.take (i := 4) (v := .pointer (some ⟨sb, so + k * 2, none⟩)) rfl (by decide +kernel) (by decide +kernel) (by decide +kernel) (by decide +kernel) (fun _ _ _ h => h) DS0 (Or.inl ⟨by simp [Region.wanted], fun w' hw' => by (obtain ⟨s0, s1, s2, s3, s4⟩ := hw'; go_simp)⟩) ?_
              refine AnyBut.take (i := 5) (v := .agg #[.slice (AI k) nI (cI k)]) rfl (by decide +kernel) (by decide +kernel) (by decide +kernel) (by decide +kernel) (fun _ _ _ h => h) DS0 (Or.inl ⟨by simp [Region.wanted], fun w' hw' => by (obtain ⟨s0, s1, s2, s3, s4⟩ := hw'; go_simp)⟩) ?_
              refine AnyBut.take (i := 6) (v := .int .i64 y) rfl (by decide +kernel) (by decide +kernel) (by decide +kernel) (by decide +kernel) (fun _ _ _ h => h) DS0 (Or.inl ⟨by simp [Region.wanted], fun w' hw' => by (obtain ⟨s0, s1, s2, s3, s4⟩ := hw'; go_simp)⟩) ?_
              refine AnyBut.take (i := 8) (v := .pointer (some ⟨w1.heap.size, 1, none⟩)) rfl (by decide +kernel) (by decide +kernel) (by decide +kernel) (by decide +kernel) (fun _ _ _ h => h) DS0 (Or.inl ⟨by simp [Region.wanted], fun w' hw' => by (obtain ⟨s0, s1, s2, s3, s4⟩ := hw'; go_simp)⟩) ?_
              refine AnyBut.take (i := 9) (v := .slice (some ⟨sb, so, none⟩) nL eL) rfl (by decide +kernel) (by decide +kernel) (by decide +kernel) (by decide +kernel) (fun _ _ _ h => h) DS0 (Or.inl ⟨by simp [Region.wanted], fun w' hw' => by (obtain ⟨s0, s1, s2, s3, s4⟩ := hw'; go_simp)⟩) ?_
              refine AnyBut.take (i := 10) (v := .int .i64 k) rfl (by decide +kernel) (by decide +kernel) (by decide +kernel) (by decide +kernel) (fun _ _ _ h => h) DS0 (Or.inl ⟨by simp [Region.wanted], fun w' hw' => by (obtain ⟨s0, s1, s2, s3, s4⟩ := hw'; go_simp)⟩) ?_
              refine AnyBut.take (i := 11) (v := .pointer (some ⟨sb, so + k * 2, none⟩)) rfl (by decide +kernel) (by decide +kernel) (by decide +kernel) (by decide +kernel) (fun _ _ _ h => h) DS0 (Or.inl ⟨by simp [Region.wanted], fun w' hw' => by (obtain ⟨s0, s1, s2, s3, s4⟩ := hw'; go_simp)⟩) ?_
              refine AnyBut.take (i := 12) (v := .pointer (some ⟨sb, so + k * 2 + 1, none⟩)) rfl (by decide +kernel) (by decide +kernel) (by decide +kernel) (by decide +kernel) (fun _ _ _ h => h) DS0 (Or.inl ⟨by simp [Region.wanted], fun w' hw' => by (obtain ⟨s0, s1, s2, s3, s4⟩ := hw'; go_simp)⟩) ?_
              refine AnyBut.take (i := 13) (v := .agg #[.slice (AO k) nO (cO k)]) rfl (by decide +kernel) (by decide +kernel) (by decide +kernel) (by decide +kernel) (fun _ _ _ h => h) DS0 (Or.inl ⟨by simp [Region.wanted], fun w' hw' => by (obtain ⟨s0, s1, s2, s3, s4⟩ := hw'; go_simp)⟩) ?_
              refine AnyBut.take (i := 14) (v := .int .i64 y) rfl (by decide +kernel) (by decide +kernel) (by decide +kernel) (by decide +kernel) (fun _ _ _ h => h) DS0 (Or.inl ⟨by simp [Region.wanted], fun w' hw' => by (obtain ⟨s0, s1, s2, s3, s4⟩ := hw'; go_simp)⟩) ?_
              refine at_actD fun a' ha' => ?_
              simp [Act.put] at ha'
              subst ha'
              refine Inv2.any_from (F := fun b0 a0 b a W => ∃ (d1 d2 a1 a2 s1 s2 : Bool) (v1 v2 p1 p2 : Value), b = ((((((b0.setIfInBounds 7 d1).setIfInBounds 15 d2).setIfInBounds 16 a1).setIfInBounds 17 a2).setIfInBounds 18 s1).setIfInBounds 19 s2) ∧ a = { tmps := ((((a0.tmps.setIfInBounds 111 v1).setIfInBounds 119 v2).setIfInBounds 15 p1).setIfInBounds 16 p2), defers := a0.defers } ∧ DesS wr w1.heap.size sb so k (.slice (some ⟨sb, so, none⟩) nL eL) (.slice (AI k) nI (cI k)) (.slice (AO k) nO (cO k)) W ∧ Inv2.Two wr.heap.size 66 #[.int .i64 il, .int .i64 ih] #[.int .i64 ol, .int .i64 oh] d1 d2 a1 a2 s1 s2 v1 v2 p1 p2 W ∧ (s1 = true → a1 = true) ∧ (s2 = true → a2 = true)) (by decide +kernel) ?h0 ?hS ?hs ?hd
              case h0 => exact ⟨false, false, false, false, false, false, u111, u119, u15, u16, by decide +kernel, by simp, DS0, Inv2.Two.none, fun e => (by cases e), fun e => (by cases e)⟩
              case hS =>
                rintro b a W ⟨d1, d2, a1, a2, s1, s2, v1, v2, p1, p2, _, _, h, ht, hc1, hc2⟩
                exact h
              case hs =>
                rintro b a W ⟨d1, d2, a1, a2, s1, s2, v1, v2, p1, p2, rfl, rfl, h, ht, hc1, hc2⟩ i hi
                have kb : keyDes i d1 d2 a1 a2 = true := by
                  clear h ht hc1 hc2
                  revert i
                  revert d1 d2 a1 a2 s1 s2
                  decide +kernel
                have key : (i = 7 ∧ d1 = false) ∨ (i = 15 ∧ d1 = true ∧ d2 = false) ∨ (i = 16 ∧ a1 = false) ∨ (i = 17 ∧ a2 = false) ∨ (i = 18 ∧ d1 = true ∧ a1 = true) ∨ (i = 19 ∧ d2 = true ∧ a2 = true) := by simpa [keyDes, and_assoc, or_assoc] using kb
                clear kb hi
                rcases key with ⟨rfl, hk'⟩ | ⟨rfl, hk'⟩ | ⟨rfl, hk'⟩ | ⟨rfl, hk'⟩ | ⟨rfl, hk'⟩ | ⟨rfl, hk'⟩
                · refine ⟨_, rfl, rfl, fun K hK => ?_⟩
                  go_simp
                  refine (HAI.out _ h).mono ?_
                  rintro e W' ⟨rfl, hb⟩
                  refine hK _ _ ⟨true, d2, a1, a2, s1, s2, .agg #[.int .i64 il, .int .i64 ih], v2, p1, p2, (by clear hK K h ht hc1 hc2; revert d1 d2 a1 a2 s1 s2; decide +kernel), by simp, HSP.out _ _ h hb, (ht.under hb).call1, hc1, hc2⟩
                · refine ⟨_, rfl, rfl, fun K hK => ?_⟩
                  go_simp
                  refine (HAO.out _ h).mono ?_
                  rintro e W' ⟨rfl, hb⟩
                  refine hK _ _ ⟨d1, true, a1, a2, s1, s2, v1, .agg #[.int .i64 ol, .int .i64 oh], p1, p2, (by clear hK K h ht hc1 hc2; revert d1 d2 a1 a2 s1 s2; decide +kernel), by simp, HSP.out _ _ h hb, (ht.under hb).call2, hc1, hc2⟩
                · have hs1 : s1 = false := by cases s1; rfl; exact absurd (hk'.symm.trans (hc1 rfl)) (by decide)
                  subst hk' hs1
                  refine ⟨_, rfl, rfl, fun K hK => ?_⟩
                  go_simp
                  refine hK _ _ ⟨d1, d2, true, a2, false, s2, v1, v2, .pointer (some ⟨W.heap.size, 0, none⟩), p2, (by clear hK K h ht hc1 hc2; revert d1 d2 a2 s2; decide +kernel), by simp, HAL.out _ _ h, ht.alloc1 #[.int .i64 0, .int .i64 0] rfl h.2.2.2.1, fun _ => rfl, hc2⟩
                · have hs2 : s2 = false := by cases s2; rfl; exact absurd (hk'.symm.trans (hc2 rfl)) (by decide)
                  subst hk' hs2
                  refine ⟨_, rfl, rfl, fun K hK => ?_⟩
                  go_simp
                  refine hK _ _ ⟨d1, d2, a1, true, s1, false, v1, v2, p1, .pointer (some ⟨W.heap.size, 0, none⟩), (by clear hK K h ht hc1 hc2; revert d1 d2 a1 s1; decide +kernel), by simp, HAL.out _ _ h, ht.alloc2 #[.int .i64 0, .int .i64 0] rfl h.2.2.2.1, hc1, fun _ => rfl⟩
                · obtain ⟨h1, h2⟩ := hk'
                  subst h1 h2
                  obtain rfl := ht.r1 rfl
                  obtain ⟨g, cs, rfl, hg, hx, hsz, he⟩ := ht.l1 rfl
                  obtain ⟨x, y, rfl⟩ := two_of_size hsz
                  obtain ⟨x0, x1⟩ := rng_box2 hx
                  obtain ⟨x2, x3⟩ := rng_free2 hx
                  have t1 := ht.put1 (rng_put hx (.int .i64 il) (.int .i64 ih)) (put_far _ _)
                  have hset := HST.out _ ⟨g, 1, none⟩ (.int .i64 ih) (HST.out _ ⟨g, 0, none⟩ (.int .i64 il) h hg) hg
                  refine ⟨_, rfl, rfl, fun K hK => ?_⟩
                  go_simp
                  refine hK _ _ ⟨true, d2, true, a2, true, s2, .agg #[.int .i64 il, .int .i64 ih], v2, .pointer (some ⟨g, 0, none⟩), p2, (by clear hK K h ht t1 hset hc1 hc2 he; revert d2 a2 s1 s2; decide +kernel), by simp, hset, t1, fun _ => rfl, hc2⟩
                · obtain ⟨h1, h2⟩ := hk'
                  subst h1 h2
                  obtain rfl := ht.r2 rfl
                  obtain ⟨g, cs, rfl, hg, hx, hsz, he⟩ := ht.l2 rfl
                  obtain ⟨x, y, rfl⟩ := two_of_size hsz
                  obtain ⟨x0, x1⟩ := rng_box2 hx
                  obtain ⟨x2, x3⟩ := rng_free2 hx
                  have t1 := ht.put2 (rng_put hx (.int .i64 ol) (.int .i64 oh)) (put_far _ _)
                  have hset := HST.out _ ⟨g, 1, none⟩ (.int .i64 oh) (HST.out _ ⟨g, 0, none⟩ (.int .i64 ol) h hg) hg
                  refine ⟨_, rfl, rfl, fun K hK => ?_⟩
                  go_simp
                  refine hK _ _ ⟨d1, true, a1, true, s1, true, v1, .agg #[.int .i64 ol, .int .i64 oh], p1, .pointer (some ⟨g, 0, none⟩), (by clear hK K h ht t1 hset hc1 hc2 he; revert d1 a1 s1 s2; decide +kernel), by simp, hset, t1, hc1, fun _ => rfl⟩
              case hd =>
                rintro b a W ⟨d1, d2, a1, a2, s1, s2, v1, v2, p1, p2, rfl, rfl, h, ht, hc1, hc2⟩ hr
                have key : s1 = true ∧ s2 = true := by
                  clear h ht hc1 hc2
                  revert d1 d2 a1 a2 s1 s2
                  decide +kernel
                obtain ⟨g7, cs7, rfl, hg7, hx7, _, e7⟩ := ht.l1 (hc1 key.1)
                obtain ⟨g8, cs8, rfl, hg8, hx8, _, e8⟩ := ht.l2 (hc2 key.2)
                obtain rfl := e7 key.1
                obtain rfl := e8 key.2
                clear hr key e7 e8
                simp
                go_wp2_with fail
                go_meet
                exact ⟨_, _, rfl, rfl, (rng_box2 hx7).1, (rng_box2 hx7).2, (rng_box2 hx8).1, (rng_box2 hx8).2, h.2.2.2.2⟩
            case rest =>
              obtain ⟨g5, g6, rfl, rfl, q0, q1, q3, q4, hbe⟩ := hcut
              obtain ⟨⟨bI0, bI1, bI2⟩, ⟨bO0, bO1, bO2⟩, u1, u2, u3, u4⟩ := HU.out
              obtain ⟨⟨f10, f11⟩, ⟨f20, f21⟩, _, _, _⟩ := HFB.out
              have GR2 := Lib.hid (GR.out.under hbe.out)
              have e0 := GR2.out.cell 0
              have e1 := GR2.out.cell 1
              simp only [List.getElem?_toArray, List.getElem?_cons_zero, List.getElem?_cons_succ] at e0 e1
              have BN := Lib.hid (BW.out.trans (hbe.out.mono BW.out.size))
              have s1 : decide (gx.Burst + 1 < ih - ol) = false := decide_eq_false (by omega)
              have s2 : decide (gx.Collapse + 1 < oh - il) = false := decide_eq_false (by omega)
              have s3 : decide (gx.Burst < il - oh) = false := decide_eq_false (by omega)
              have s4 : decide (gx.Collapse < ol - ih) = false := decide_eq_false (by omega)
              clear u1 u2 u3 u4 HU HAI HAO HKEEP HAL HST HSP HDR hbe GR GR2 XR BR
              go_wp2_with fail
              go_roundw
              case rel => exact ⟨k + 1, hlt, by go_num, BN⟩
              case measure => simp [intOf]; omega
          · obtain rfl : k = nL := by omega
            have t1 : decide (k < k) = false := decide_eq_false hlt
            have e2 := GR.out.cell 2
            simp only [List.getElem?_toArray, List.getElem?_cons_zero, List.getElem?_cons_succ] at e2
            have e3 := oldCell BW.out hpd PD.out
            have s1 : decide (pl ≤ gx.Pull) = true := decide_eq_true hpull
            have y1 : pb < wr.heap.size := by have := BW.out.size; omega
            have y2 : (i : Int) < (nE : Int) := by omega
            have y3 : (0 : Int) ≤ (i : Int) := by omega
            have y4 := GR.out.lt
            have HST := Lib.hid (fun W' (hb : Below wr.heap.size wr W') => (⟨oldCell hb y1 e3, oldCell hb y4 e2⟩ : W'.cell? ⟨pb, po + i, none⟩ = some (.int .i64 pl) ∧ W'.cell? ⟨g, 2, none⟩ = some (.int .i64 gx.Pull)))
            have DR := Lib.hid ((Below.refl wr.heap.size wr).drew)
            go_wp2_with fail
            clear q0 q1 q2 q3 q4
            go_region_held3 (fun w' => w'.cell? ⟨pb, po + i, none⟩ = some (.int .i64 pl) ∧ w'.cell? ⟨g, 2, none⟩ = some (.int .i64 gx.Pull))
              (first | exact HST.out _ DR.out | exact HST.out _ EB.out)
              (first
                | (go_at_call 14; (with_reducible refine (law05_awake _).mono ?_); rintro e w9 ⟨rfl, hb9⟩; have EB := Lib.hid (DR.out.trans (hb9.mono DR.out.size)))
                | fail)
            go_wp2_with fail
            go_ret
            have BL := BR.out.trans (EB.out.mono BR.out.size)
            exact ⟨rfl, HB1.out.trans (BL.mono HB1.out.size)⟩

end Go.Proofs.Ytannipfohicpmaa
