/- Walks of the package casing: which choices are valid; Bears, Pulls, Cost. -/
import Derived.Test.YtannipfohicpmaaBears
namespace Go.Proofs.Ytannipfohicpmaa
open Go.RowKit Go.Shelf Mpl
attribute [local go_sem] Oper.semAt_some

theorem enters_choice1 (args : Array Value) (w : World) : (callFunc 86 args).run Try.prog w = .ok (.enter 86 args) w :=
  enters_of Try.func86 (by kernel_rfl) rfl args w

theorem casing_choice1 (x : Int) (g nE nL nG cE cL cG : Nat) (AE AL AG : Option Addr) (f o : Int) (w : World) (hb : Box w g 36 #[.slice AE nE cE, .slice AL nL cL, .slice AG nG cG, .int .i64 f, .int .i64 o]) :
    Calls Try.prog 86 #[.int .i64 x, .pointer (some ⟨g, 0, none⟩)] w fun e w' => e = .returned (.bool (decide (x < 0 ∨ (nG : Int) ≤ x))) ∧ Below w.heap.size w w' := by
  have q2 := hb.cell 2
  simp only [List.getElem?_toArray, List.getElem?_cons_zero, List.getElem?_cons_succ] at q2
  by_cases h : x < 0
  · have hd : decide (x < 0) = true := decide_eq_true h
    go_enter Try.func86, Try.ntmps86
    go_wp2_with fail
    go_ret
    exact ⟨ret_bool (decide_eq_true (Or.inl h)).symm, Below.refl _ _⟩
  · have hd : decide (x < 0) = false := decide_eq_false h
    go_enter Try.func86, Try.ntmps86
    go_wp2_with fail
    go_ret
    exact ⟨rfl, Below.refl _ _⟩

set_option maxHeartbeats 1000000 in
theorem casing_choice (j : Job) (l : List Int) (v0 : Value) (A : Option Addr) (c : Nat) (w : World) (hv : JobV w w.heap.size v0 j) (hl : Ints w w.heap.size A l) (hnl : l.length ≤ 4611686018427387904) :
    Calls Try.prog 49 #[v0, .slice A l.length c] w fun e w' => e = .returned (.bool (isChoice j l)) ∧ Below w.heap.size w w' := by
  have hB := (Below.refl w.heap.size w).alloc (Nat.le_refl _) (.cells #[v0] 36)
  have HV := Lib.hid hv
  obtain ⟨AE, cE, AL, cL, AG, cG, rfl, hcap, hE, hL, hG⟩ := hv
  have HL := Lib.hid hl
  clear hE hL hG hl hcap hB
  have HCH := Lib.hid (fun W (hW : Below w.heap.size w W) => casing_Check j _ W (HV.out.below hW))
  have HCN := Lib.hid (fun W (hW : Below w.heap.size w W) (hb : Box W w.heap.size 36 #[.slice AE j.Ends.length cE, .slice AL j.Loads.length cL, .slice AG j.Grades.length cG, .int .i64 j.Factor, .int .i64 j.Over]) =>
    contains_int 86 #[.pointer (some ⟨w.heap.size, 0, none⟩)] enters_choice1 (fun i => decide (pick l i < 0 ∨ (j.Grades.length : Int) ≤ pick l i)) (fun i => .int .i64 (pick l i)) A l.length c W hnl
      (fun h0 => by obtain ⟨b, off, rfl, hlt, hc⟩ := HL.out h0; exact ⟨b, off, rfl, Nat.lt_of_lt_of_le hlt hW.size, fun i hi => oldCell hW hlt (hc i hi)⟩)
      (fun i _ W' hW' => casing_choice1 _ _ _ _ _ _ _ _ _ _ _ _ _ W' (hb.under hW')))
  rw [any_get (fun g => decide (g < 0 ∨ (j.Grades.length : Int) ≤ g)) l _ (fun i hi => by simp [pick, hi])] at HCN
  have hI : Hid (isChoice j l = (decide (checkJob j = 0) && decide (l.length = j.Ends.length) && !(l.any fun g => decide (g < 0 ∨ (j.Grades.length : Int) ≤ g)))) := rfl
  generalize checkJob j = r at *
  generalize (l.any fun g => decide (g < 0 ∨ (j.Grades.length : Int) ≤ g)) = an at *
  generalize isChoice j l = res at *
  generalize j.Ends.length = nE at *
  generalize j.Loads.length = nL at *
  generalize j.Grades.length = nG at *
  generalize l.length = nl at *
  have B0 := Lib.hid (Box.new w 36 #[.slice AE nE cE, .slice AL nL cL, .slice AG nG cG, .int .i64 j.Factor, .int .i64 j.Over] rfl)
  have hB := (Below.refl w.heap.size w).alloc (Nat.le_refl _) (.cells #[.slice AE nE cE, .slice AL nL cL, .slice AG nG cG, .int .i64 j.Factor, .int .i64 j.Over] 36)
  have HB := Lib.hid hB
  clear hB
  by_cases h1 : r = 0
  · have h1' : (r == 0) = true := by simpa using h1
    by_cases h2 : nl = nE
    · subst h2
      have h2' : ((nl : Int) == (nl : Int)) = true := by simp
      go_enter Try.func49, Try.ntmps49
      go_wp2_with fail
      refine (HCH.out _ HB.out).mono ?_
      rintro e w1 ⟨rfl, hb1⟩
      have b0 := B0.out.under hb1
      have q0 := b0.cell 0
      simp only [List.getElem?_toArray, List.getElem?_cons_zero] at q0
      have HB1 := Lib.hid (HB.out.trans (hb1.mono HB.out.size))
      go_wp2_with fail
      refine (HCN.out _ HB1.out b0).mono ?_
      rintro e w2 ⟨rfl, hb2⟩
      go_wp2_with fail
      go_ret
      exact ⟨ret_bool (by rw [hI.out, h1]; simp), HB1.out.trans (hb2.mono HB1.out.size)⟩
    · have h2' : ((nl : Int) == (nE : Int)) = false := beq_eq_false_iff_ne.2 (by omega)
      go_enter Try.func49, Try.ntmps49
      go_wp2_with fail
      refine (HCH.out _ HB.out).mono ?_
      rintro e w1 ⟨rfl, hb1⟩
      have b0 := B0.out.under hb1
      have q0 := b0.cell 0
      simp only [List.getElem?_toArray, List.getElem?_cons_zero] at q0
      have HB1 := Lib.hid (HB.out.trans (hb1.mono HB.out.size))
      go_wp2_with fail
      go_ret
      exact ⟨ret_bool (by rw [hI.out]; simp [h2]), HB1.out⟩
  · have h1' : (r == 0) = false := by simpa using h1
    go_enter Try.func49, Try.ntmps49
    go_wp2_with fail
    refine (HCH.out _ HB.out).mono ?_
    rintro e w1 ⟨rfl, hb1⟩
    have HB1 := Lib.hid (HB.out.trans (hb1.mono HB.out.size))
    go_wp2_with fail
    go_ret
    exact ⟨ret_bool (by rw [hI.out]; simp [h1]), HB1.out⟩

set_option maxHeartbeats 1000000 in
theorem casing_Cost (j : Job) (l : List Int) (v0 : Value) (A : Option Addr) (c : Nat) (w : World) (hv : JobV w w.heap.size v0 j) (hl : Ints w w.heap.size A l) (hnl : l.length ≤ 4611686018427387904) :
    Calls Try.prog 27 #[v0, .slice A l.length c] w fun e w' => e = .returned (.int .i64 (cost j l)) ∧ Below w.heap.size w w' := by
  have HV := Lib.hid hv
  obtain ⟨AE, cE, AL, cL, AG, cG, rfl, hcap, hE, hL, hG⟩ := hv
  have HL := Lib.hid hl
  clear hE hL hG hl hcap
  have HCH := Lib.hid (fun W (hW : Below w.heap.size w W) => casing_choice j l _ A c W (HV.out.below hW) (HL.out.up hW hW.size) hnl)
  have HCO := Lib.hid (fun h W (hW : Below w.heap.size w W) => casing_cost j l _ A c W (HV.out.below hW) (HL.out.up hW hW.size) (isChoice_chosen h))
  have hR : Hid (cost j l = if isChoice j l then sumFrom (costOf j l) 0 l.length else 0) := rfl
  generalize j.Ends.length = nE at *
  generalize j.Loads.length = nL at *
  generalize j.Grades.length = nG at *
  have B0 := Lib.hid (Box.new w 36 #[.slice AE nE cE, .slice AL nL cL, .slice AG nG cG, .int .i64 j.Factor, .int .i64 j.Over] rfl)
  have HB := Lib.hid ((Below.refl w.heap.size w).alloc (Nat.le_refl _) (.cells #[.slice AE nE cE, .slice AL nL cL, .slice AG nG cG, .int .i64 j.Factor, .int .i64 j.Over] 36))
  generalize cost j l = res at *
  generalize sumFrom (costOf j l) 0 l.length = sm at *
  generalize l.length = nl at *
  cases hi : isChoice j l
  · rw [hi] at HCH hR
    clear hi HCO
    go_enter Try.func27, Try.ntmps27
    go_wp2_with fail
    refine (HCH.out _ HB.out).mono ?_
    rintro e w1 ⟨rfl, hb1⟩
    have HB1 := Lib.hid (HB.out.trans (hb1.mono HB.out.size))
    go_wp2_with fail
    go_ret
    exact ⟨ret_int (by rw [hR.out]; rfl), HB1.out⟩
  · rw [hi] at HCH hR
    replace HCO := Lib.hid (HCO.out hi)
    clear hi
    go_enter Try.func27, Try.ntmps27
    go_wp2_with fail
    refine (HCH.out _ HB.out).mono ?_
    rintro e w1 ⟨rfl, hb1⟩
    have HB1 := Lib.hid (HB.out.trans (hb1.mono HB.out.size))
    have b0 := B0.out.under hb1
    have q0 := b0.cell 0
    have q1 := b0.cell 1
    have q2 := b0.cell 2
    have q3 := b0.cell 3
    have q4 := b0.cell 4
    simp only [List.getElem?_toArray, List.getElem?_cons_zero, List.getElem?_cons_succ] at q0 q1 q2 q3 q4
    go_wp2_with fail
    refine (HCO.out _ HB1.out).mono ?_
    rintro e w2 ⟨rfl, hb2⟩
    go_wp2_with fail
    go_ret
    exact ⟨ret_int (by rw [hR.out]; rfl), HB1.out.trans (hb2.mono HB1.out.size)⟩

theorem pick_map (n : Nat) (f : Nat → Int) (t : Nat) (h : t < n) : pick ((List.range n).map f) t = f t := by simp [pick, h]

set_option maxHeartbeats 1000000 in
theorem casing_Pulls (j : Job) (l : List Int) (v0 : Value) (A : Option Addr) (c : Nat) (w : World) (hv : JobV w w.heap.size v0 j) (hl : Ints w w.heap.size A l) (hnl : l.length ≤ 4611686018427387904) :
    Calls Try.prog 25 #[v0, .slice A l.length c] w fun e w' => (∃ A' c', e = .returned (.slice A' (pullsOf j l).length c') ∧ Ints w' w'.heap.size A' (pullsOf j l)) ∧ Below w.heap.size w w' := by
  have HV := Lib.hid hv
  obtain ⟨AE, cE, AL, cL, AG, cG, rfl, hcap, hE, hL, hG⟩ := hv
  have HL := Lib.hid hl
  clear hE hL hG hl hcap
  have HCH := Lib.hid (fun W (hW : Below w.heap.size w W) => casing_choice j l _ A c W (HV.out.below hW) (HL.out.up hW hW.size) hnl)
  have HCO := Lib.hid (fun h W (hW : Below w.heap.size w W) => casing_pulls j l _ A c W (HV.out.below hW) (HL.out.up hW hW.size) (isChoice_chosen h))
  have hR : Hid (pullsOf j l = if isChoice j l then (List.range l.length).map (pullOf j l) else []) := rfl
  generalize j.Ends.length = nE at *
  generalize j.Loads.length = nL at *
  generalize j.Grades.length = nG at *
  have B0 := Lib.hid (Box.new w 36 #[.slice AE nE cE, .slice AL nL cL, .slice AG nG cG, .int .i64 j.Factor, .int .i64 j.Over] rfl)
  have HB := Lib.hid ((Below.refl w.heap.size w).alloc (Nat.le_refl _) (.cells #[.slice AE nE cE, .slice AL nL cL, .slice AG nG cG, .int .i64 j.Factor, .int .i64 j.Over] 36))
  generalize pullsOf j l = res at *
  generalize l.length = nl at *
  cases hi : isChoice j l
  · rw [hi] at HCH hR
    clear hi HCO
    go_enter Try.func25, Try.ntmps25
    go_wp2_with fail
    refine (HCH.out _ HB.out).mono ?_
    rintro e w1 ⟨rfl, hb1⟩
    have HB1 := Lib.hid (HB.out.trans (hb1.mono HB.out.size))
    go_wp2_with fail
    go_ret
    obtain rfl : res = [] := by rw [hR.out]; rfl
    exact ⟨⟨none, 0, rfl, fun h => absurd h (by simp)⟩, HB1.out⟩
  · rw [hi] at HCH hR
    replace HCO := Lib.hid (HCO.out hi)
    clear hi
    go_enter Try.func25, Try.ntmps25
    go_wp2_with fail
    refine (HCH.out _ HB.out).mono ?_
    rintro e w1 ⟨rfl, hb1⟩
    have HB1 := Lib.hid (HB.out.trans (hb1.mono HB.out.size))
    have b0 := B0.out.under hb1
    have q0 := b0.cell 0
    have q1 := b0.cell 1
    have q2 := b0.cell 2
    have q3 := b0.cell 3
    have q4 := b0.cell 4
    simp only [List.getElem?_toArray, List.getElem?_cons_zero, List.getElem?_cons_succ] at q0 q1 q2 q3 q4
    go_wp2_with fail
    refine (HCO.out _ HB1.out).mono ?_
    rintro e w2 ⟨g, rfl, hg, bg, hb2⟩
    have BG := Lib.hid bg
    clear bg
    go_wp2_with fail
    go_ret
    obtain rfl : res = (List.range nl).map (pullOf j l) := by rw [hR.out]; rfl
    refine ⟨⟨some ⟨g, 0, none⟩, nl, by simp, fun _ => ⟨g, 0, rfl, BG.out.lt, fun i hi => ?_⟩⟩, HB1.out.trans (hb2.mono HB1.out.size)⟩
    have hi' : i < nl := by simpa using hi
    have := BG.out.cell i
    rw [mkRow_get _ _ _ hi'] at this
    rw [pick_map _ _ _ hi', Nat.zero_add]
    exact this

set_option maxHeartbeats 1000000 in
theorem casing_Bears (j : Job) (l : List Int) (v0 : Value) (A : Option Addr) (c : Nat) (w : World) (hv : JobV w w.heap.size v0 j) (hl : Ints w w.heap.size A l) (hnl : l.length ≤ 4611686018427387904) :
    Calls Try.prog 22 #[v0, .slice A l.length c] w fun e w' => e = .returned (.tuple #[.int .i64 (bears j l).1, .int .i64 (bears j l).2.1, .int .i64 (bears j l).2.2]) ∧ Below w.heap.size w w' := by
  have HV := Lib.hid hv
  obtain ⟨AE, cE, AL, cL, AG, cG, rfl, hcap, hE, hL, hG⟩ := hv
  have HL := Lib.hid hl
  clear hE hL hG hl hcap
  have HCK := Lib.hid (fun W (hW : Below w.heap.size w W) => casing_Check j _ W (HV.out.below hW))
  have HCH := Lib.hid (fun W (hW : Below w.heap.size w W) => casing_choice j l _ A c W (HV.out.below hW) (HL.out.up hW hW.size) hnl)
  have HCO := Lib.hid (fun h W (hW : Below w.heap.size w W) => casing_bears0 j l _ A c W (HV.out.below hW) (HL.out.up hW hW.size) (isChoice_chosen h))
  have hR : Hid (bears j l = if checkJob j ≠ 0 then (0, 0, checkJob j) else if !isChoice j l then (0, 0, 2) else ((bearsFrom j l 0 l.length).1, (bearsFrom j l 0 l.length).2, 0)) := rfl
  generalize j.Ends.length = nE at *
  generalize j.Loads.length = nL at *
  generalize j.Grades.length = nG at *
  have B0 := Lib.hid (Box.new w 36 #[.slice AE nE cE, .slice AL nL cL, .slice AG nG cG, .int .i64 j.Factor, .int .i64 j.Over] rfl)
  have HB := Lib.hid ((Below.refl w.heap.size w).alloc (Nat.le_refl _) (.cells #[.slice AE nE cE, .slice AL nL cL, .slice AG nG cG, .int .i64 j.Factor, .int .i64 j.Over] 36))
  generalize bears j l = res at *
  generalize bearsFrom j l 0 l.length = bf at *
  generalize l.length = nl at *
  generalize checkJob j = r at *
  by_cases h1 : r = 0
  · subst h1
    cases hi : isChoice j l
    · rw [hi] at HCH hR
      clear hi HCO
      go_enter Try.func22, Try.ntmps22
      go_wp2_with fail
      refine (HCK.out _ HB.out).mono ?_
      rintro e w1 ⟨rfl, hb1⟩
      have HB1 := Lib.hid (HB.out.trans (hb1.mono HB.out.size))
      have b0 := B0.out.under hb1
      have q0 := b0.cell 0
      have q1 := b0.cell 1
      have q2 := b0.cell 2
      have q3 := b0.cell 3
      have q4 := b0.cell 4
      simp only [List.getElem?_toArray, List.getElem?_cons_zero, List.getElem?_cons_succ] at q0 q1 q2 q3 q4
      go_wp2_with fail
      refine (HCH.out _ HB1.out).mono ?_
      rintro e w2 ⟨rfl, hb2⟩
      go_wp2_with fail
      refine bodyPost_ret (results_tmp3 rfl _ _ _) rfl ?_
      exact ⟨by rw [hR.out]; rfl, HB1.out.trans (hb2.mono HB1.out.size)⟩
    · rw [hi] at HCH hR
      replace HCO := Lib.hid (HCO.out hi)
      clear hi
      go_enter Try.func22, Try.ntmps22
      go_wp2_with fail
      refine (HCK.out _ HB.out).mono ?_
      rintro e w1 ⟨rfl, hb1⟩
      have HB1 := Lib.hid (HB.out.trans (hb1.mono HB.out.size))
      have b0 := B0.out.under hb1
      have q0 := b0.cell 0
      have q1 := b0.cell 1
      have q2 := b0.cell 2
      have q3 := b0.cell 3
      have q4 := b0.cell 4
      simp only [List.getElem?_toArray, List.getElem?_cons_zero, List.getElem?_cons_succ] at q0 q1 q2 q3 q4
      go_wp2_with fail
      refine (HCH.out _ HB1.out).mono ?_
      rintro e w2 ⟨rfl, hb2⟩
      have HB2 := Lib.hid (HB1.out.trans (hb2.mono HB1.out.size))
      have c0 := b0.under hb2
      have r0 := c0.cell 0
      have r1 := c0.cell 1
      have r2 := c0.cell 2
      have r3 := c0.cell 3
      have r4 := c0.cell 4
      simp only [List.getElem?_toArray, List.getElem?_cons_zero, List.getElem?_cons_succ] at r0 r1 r2 r3 r4
      clear b0 q0 q1 q2 q3 q4
      go_wp2_with fail
      refine (HCO.out _ HB2.out).mono ?_
      rintro e w3 ⟨rfl, hb3⟩
      go_wp2_with fail
      refine bodyPost_ret (results_tmp3 rfl _ _ _) rfl ?_
      exact ⟨by rw [hR.out]; rfl, HB2.out.trans (hb3.mono HB2.out.size)⟩
  · have h1' : (r != 0) = true := by simpa using h1
    go_enter Try.func22, Try.ntmps22
    go_wp2_with fail
    refine (HCK.out _ HB.out).mono ?_
    rintro e w1 ⟨rfl, hb1⟩
    have HB1 := Lib.hid (HB.out.trans (hb1.mono HB.out.size))
    go_wp2_with fail
    refine bodyPost_ret (results_tmp3 rfl _ _ _) rfl ?_
    exact ⟨by rw [hR.out, if_pos h1]; rfl, HB1.out⟩

end Go.Proofs.Ytannipfohicpmaa
