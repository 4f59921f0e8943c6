/- Walks of moonpoolkit: pick, pressures. -/
import Derived.Test.YtannipfohicpmaaMod
import Derived.Test.YtannipfohicpmaaMade
import Derived.Test.YtannipfohicpmaaAppend
import Derived.Test.YtannipfohicpmaaOpen
namespace Go.Proofs.Ytannipfohicpmaa
open Go.RowKit Go.Shelf Mpl

/-- what pick picks -/
def kitPick (l : List Int) (i : Nat) : Int := if l.length = 0 then 0 else pick l (i % l.length) % 1099511627776
theorem kitPick_bounds (l : List Int) (i : Nat) : 0 ≤ kitPick l i ∧ kitPick l i ≤ 1099511627775 := by
  unfold kitPick
  split <;> omega

set_option maxHeartbeats 1000000 in
theorem kit_pick (l : List Int) (A : Option Addr) (c i : Nat) (w : World) (hl : Ints w w.heap.size A l) (hin : IntsIn l) (hi : i ≤ 1000) (hm : l.length ≤ maxLen) :
    Calls Try.prog 56 #[.slice A l.length c, .int .i64 i] w fun e w' => e = .returned (.int .i64 (kitPick l i)) ∧ w = w' := by
  unfold maxLen at hm
  by_cases h0 : l.length = 0
  · have hs := Lib.hid (show kitPick l i = 0 by simp [kitPick, h0])
    rw [h0]
    have hz : (((0 : Nat) : Int) == 0) = true := by simp
    clear h0 hl hm
    go_enter Try.func56, Try.ntmps56
    go_wp2_with fail
    go_ret
    exact ⟨ret_int hs.out.symm, rfl⟩
  · have hs := Lib.hid (show kitPick l i = pick l (i % l.length) % 1099511627776 by simp [kitPick, h0])
    have hlt : i % l.length < l.length := Nat.mod_lt _ (by omega)
    obtain ⟨b, off, rfl, hb, hc⟩ := hl (by omega)
    have e0 := hc _ hlt
    have HM := Lib.hid (fun W => kit_Mod64 (pick l (i % l.length)) 1099511627776 W (hin _) (by omega) (by omega))
    have hz : ((l.length : Int) == 0) = false := beq_eq_false_iff_ne.2 (by omega)
    clear hl hc h0
    generalize l.length = n at *
    have hn0 : 0 < n := by omega
    go_enter Try.func56, Try.ntmps56
    go_wp2_with (go_at_call 34; refine (HM.out _).mono ?_; rintro e w' ⟨rfl, rfl⟩)
    go_ret
    exact ⟨ret_int hs.out.symm, rfl⟩

theorem own_far {w : World} {base : Nat} {e : TypeId} {size : Nat} {v : Value} {n : Nat} {xs : List Value} (h : w.ownsRow base e size v n xs) {p : Addr} (hp : p.block < base) (u : Value) : (w.setCell p u).ownsRow base e size v n xs := by
  obtain ⟨h1, h2⟩ := h
  refine ⟨h1, ?_⟩
  rcases h2 with h2 | ⟨g, cap, cur, hv, hg, hh, r⟩
  · exact .inl h2
  · exact .inr ⟨g, cap, cur, hv, hg, (Below.heap_setCell w p u g (by omega)).trans hh, r⟩

theorem own_le {w : World} {base base' : Nat} {e : TypeId} {size : Nat} {v : Value} {n : Nat} {xs : List Value} (h : w.ownsRow base e size v n xs) (hb : base' ≤ base) : w.ownsRow base' e size v n xs := by
  obtain ⟨h1, h2⟩ := h
  refine ⟨h1, ?_⟩
  rcases h2 with h2 | ⟨g, cap, cur, hv, hg, hh, r⟩
  · exact .inl h2
  · exact .inr ⟨g, cap, cur, hv, by omega, hh, r⟩
/-- a row that lies below B, where nothing below B changes -/
theorem own_below {w w' : World} {base B : Nat} {e : TypeId} {size : Nat} {v : Value} {n : Nat} {xs : List Value} (h : w.ownsRow base e size v n xs) (hlt : ∀ k, v.ownBlock = some k → k < B) (hb : Below B w w') : w'.ownsRow base e size v n xs := by
  obtain ⟨h1, h2⟩ := h
  refine ⟨h1, ?_⟩
  rcases h2 with h2 | ⟨g, cap, cur, hv, hg, hh, r⟩
  · exact .inl h2
  · exact .inr ⟨g, cap, cur, hv, hg, (hb.block g (hlt g (by rw [hv]; rfl))).trans hh, r⟩
theorem own_lt {w : World} {base : Nat} {e : TypeId} {size : Nat} {v : Value} {n : Nat} {xs : List Value} (h : w.ownsRow base e size v n xs) : ∀ k, v.ownBlock = some k → k < w.heap.size := by
  rcases h.2 with ⟨rfl, _⟩ | ⟨g, cap, cur, rfl, hg, hh, r⟩
  · intro k hk; simp [Value.ownBlock] at hk
  · intro k hk
    simp [Value.ownBlock] at hk
    subst hk
    exact (Array.getElem?_eq_some_iff.1 hh).1
/-- a row stays where another row, of elements of another type, grows -/
theorem own_other {w w' : World} {base base' : Nat} {e e' : TypeId} {size size' : Nat} {v v' : Value} {n n' : Nat} {xs xs' : List Value} (h : w.ownsRow base e size v n xs) (k : w.ownsRow base' e' size' v' n' xs') (hne : e ≠ e') (hg : w.grownBy w' v'.ownBlock) : w'.ownsRow base e size v n xs := by
  obtain ⟨h1, h2⟩ := h
  refine ⟨h1, ?_⟩
  rcases h2 with h2 | ⟨g, cap, cur, hv, hgg, hh, r⟩
  · exact .inl h2
  · refine .inr ⟨g, cap, cur, hv, hgg, (hg.block g (Array.getElem?_eq_some_iff.1 hh).1 ?_).trans hh, r⟩
    rcases k.2 with ⟨rfl, _⟩ | ⟨g', cap', cur', rfl, _, hh', _⟩
    · simp [Value.ownBlock]
    · intro he
      have : g = g' := by simpa [Value.ownBlock] using he
      subst this
      rw [hh] at hh'
      injection hh' with hh'
      injection hh' with _ ht
      exact hne ht

theorem Ints.own {w : World} {base : Nat} {e : TypeId} {v : Value} {n : Nat} {l : List Int} (h : w.ownsRow base e 1 v n (l.map (Value.int .i64))) :
    ∃ A c, v = .slice A l.length c ∧ l.length ≤ c ∧ Ints w w.heap.size A l := by
  have hn : n = l.length := by have := h.1; simp at this; omega
  subst hn
  obtain ⟨A, c, rfl, hnc, hc⟩ := own_form h
  refine ⟨A, c, rfl, hnc, fun h0 => ?_⟩
  obtain ⟨g, rfl, _, hlt, hcell⟩ := hc h0
  refine ⟨g, 0, rfl, hlt, fun i hi => ?_⟩
  rw [Nat.zero_add]
  exact hcell i _ (by simp [pick, hi])

def gradeC (g : Grade) : List Value := [.int .i64 g.Burst, .int .i64 g.Collapse, .int .i64 g.Pull, .int .i64 g.Weight, .int .i64 g.Cost]
theorem Grades.own {w : World} {base : Nat} {e : TypeId} {v : Value} {n : Nat} {l : List Grade} (h : w.ownsRow base e 5 v n (l.flatMap gradeC)) :
    ∃ A c, v = .slice A l.length c ∧ l.length ≤ c ∧ Grades w w.heap.size A l := by
  have hn : n = l.length := by have := h.1; rw [flatC_len gradeC 5 (fun _ => rfl)] at this; omega
  subst hn
  obtain ⟨A, c, rfl, hnc, hc⟩ := own_form h
  refine ⟨A, c, rfl, hnc, fun h0 => ?_⟩
  obtain ⟨g, rfl, _, hlt, hcell⟩ := hc h0
  refine ⟨g, 0, rfl, hlt, fun i hi => ?_⟩
  have ht : gd l i = l[i] := by simp [gd, hi]
  have hg := fun j hj => flat_get gradeC 5 (fun _ => rfl) l i j hi hj
  rw [ht]
  refine ⟨?_, ?_, ?_, ?_, ?_⟩
  · have := hcell (i * 5 + 0) _ ((hg 0 (by omega)).trans rfl); simpa using this
  · have := hcell (i * 5 + 1) _ ((hg 1 (by omega)).trans rfl); simpa using this
  · have := hcell (i * 5 + 2) _ ((hg 2 (by omega)).trans rfl); simpa using this
  · have := hcell (i * 5 + 3) _ ((hg 3 (by omega)).trans rfl); simpa using this
  · have := hcell (i * 5 + 4) _ ((hg 4 (by omega)).trans rfl); simpa using this

/-! ### knots as cells -/
def knotC (k : Knot) : List Value := [.int .i64 k.At, .int .i64 k.V]
theorem Knots.own {w : World} {base : Nat} {e : TypeId} {v : Value} {n : Nat} {l : List Knot} (h : w.ownsRow base e 2 v n (l.flatMap knotC)) :
    ∃ A c, v = .slice A l.length c ∧ l.length ≤ c ∧ Knots w w.heap.size A l := by
  have hn : n = l.length := by have := h.1; rw [flatC_len knotC 2 (fun _ => rfl)] at this; omega
  subst hn
  obtain ⟨A, c, rfl, hnc, hc⟩ := own_form h
  refine ⟨A, c, rfl, hnc, fun h0 => ?_⟩
  obtain ⟨g, rfl, _, hlt, hcell⟩ := hc h0
  refine ⟨g, 0, rfl, hlt, fun i hi j hj => ?_⟩
  have ht : kn l i = l[i] := by simp [kn, hi]
  have hg := fun j hj => flat_get knotC 2 (fun _ => rfl) l i j hi hj
  rw [knF, ht]
  rcases (show j = 0 ∨ j = 1 by omega) with rfl | rfl
  · have := hcell (i * 2 + 0) _ ((hg 0 (by omega)).trans rfl); simpa using this
  · have := hcell (i * 2 + 1) _ ((hg 1 (by omega)).trans rfl); simpa using this

/-- a load in memory of the call's own -/
structure LoadC where
  AI : Option Addr
  cI : Nat
  AO : Option Addr
  cO : Nat
  s : Stress
def loadC (x : LoadC) : List Value := [.slice x.AI x.s.In.length x.cI, .slice x.AO x.s.Out.length x.cO]
def LoadOwn (w : World) (base : Nat) (x : LoadC) : Prop := w.ownsRow base 71 2 (.slice x.AI x.s.In.length x.cI) x.s.In.length (x.s.In.flatMap knotC) ∧ w.ownsRow base 71 2 (.slice x.AO x.s.Out.length x.cO) x.s.Out.length (x.s.Out.flatMap knotC)
theorem Knots.own_slice {w : World} {base : Nat} {e : TypeId} {A : Option Addr} {c : Nat} {l : List Knot} (h : w.ownsRow base e 2 (.slice A l.length c) l.length (l.flatMap knotC)) : Knots w w.heap.size A l := by
  obtain ⟨A', c', hv, _, hk⟩ := Knots.own h
  injection hv with h1 _ _
  rw [h1]
  exact hk
theorem Loads.own {w : World} {base base' : Nat} {e : TypeId} {v : Value} {n : Nat} {l : List LoadC} (h : w.ownsRow base e 2 v n (l.flatMap loadC)) (hl : ∀ x ∈ l, LoadOwn w base' x) :
    ∃ A c, v = .slice A (l.map LoadC.s).length c ∧ (l.map LoadC.s).length ≤ c ∧ Loads w w.heap.size A (l.map LoadC.s) := by
  have hn : n = l.length := by have := h.1; rw [flatC_len loadC 2 (fun _ => rfl)] at this; omega
  subst hn
  obtain ⟨A, c, rfl, hnc, hc⟩ := own_form h
  refine ⟨A, c, by simp, by simpa using hnc, fun h0 => ?_⟩
  have h0' : 0 < l.length := by simpa using h0
  obtain ⟨g, rfl, _, hlt, hcell⟩ := hc h0'
  refine ⟨g, 0, fun i => (l[i]?.map LoadC.AI).getD none, fun i => (l[i]?.map LoadC.AO).getD none, fun i => (l[i]?.map LoadC.cI).getD 0, fun i => (l[i]?.map LoadC.cO).getD 0, rfl, hlt, fun i hi => ?_⟩
  have hi' : i < l.length := by simpa using hi
  have ht : ld (l.map LoadC.s) i = l[i].s := by simp [ld, hi']
  have hg := fun j hj => flat_get loadC 2 (fun _ => rfl) l i j hi' hj
  have hx := hl l[i] (List.getElem_mem hi')
  rw [ht]
  simp only [List.getElem?_eq_getElem hi', Option.map_some, Option.getD_some]
  refine ⟨?_, ?_, Knots.own_slice hx.1, Knots.own_slice hx.2⟩
  · have := hcell (i * 2 + 0) _ ((hg 0 (by omega)).trans rfl); simpa using this
  · have := hcell (i * 2 + 1) _ ((hg 1 (by omega)).trans rfl); simpa using this

theorem info_Stress : (Try.prog.info? 26).map (fun i => (i.zero, i.size, i.bytes)) = some (some (.agg #[.slice none 0 0, .slice none 0 0]), 2, 48) := by kernel_rfl
theorem info_Grade : (Try.prog.info? 63).map (fun i => (i.zero, i.size, i.bytes)) = some (some (.agg #[.int .i64 0, .int .i64 0, .int .i64 0, .int .i64 0, .int .i64 0]), 5, 40) := by kernel_rfl
theorem info_Knot : (Try.prog.info? 71).map (fun i => (i.zero, i.size, i.bytes)) = some (some (.agg #[.int .i64 0, .int .i64 0]), 2, 16) := by kernel_rfl

theorem load_line {w : World} {g t : Nat} {v : Value} (b : Box w g t #[v]) : (loadVar 24 ⟨g, 0, none⟩).run Try.prog w = .ok (.agg #[v]) w := by
  have q0 := b.cell 0
  simp only [List.getElem?_toArray, List.getElem?_cons_zero] at q0
  simp [go_sem, q0]

set_option maxHeartbeats 4000000 in
set_option maxRecDepth 100000 in
theorem kit_pressures (l : List Int) (A : Option Addr) (c i : Nat) (w : World) (hl : Ints w w.heap.size A l) (hin : IntsIn l) (hi : i ≤ 100) (hm : l.length ≤ maxLen) :
    Calls Try.prog 57 #[.slice A l.length c, .int .i64 i] w fun e w' => (∃ A' c' ks, e = .returned (.agg #[.slice A' ks.length c']) ∧ w'.ownsRow w.heap.size 71 2 (.slice A' ks.length c') ks.length (ks.flatMap knotC) ∧ okLine ks = 0) ∧ Below w.heap.size w w' := by
  have HP := Lib.hid (fun W (hW : Below w.heap.size w W) k (hk : k ≤ 1000) => kit_pick l A c k W (hl.up hW hW.size) hin hk hm)
  have hb := Lib.hid (kitPick_bounds l)
  clear hl hin
  unfold maxLen at hm
  generalize kitPick l = f at *
  generalize l.length = n at *
  obtain ⟨i0, hi0, hz0, hz1, hz2⟩ := info_parts info_Knot
  obtain ⟨w0, hw0⟩ : ∃ w0, ((w.alloc (.cells #[.slice none 0 0] 24)).alloc (.cells #[.slice none 0 0] 24)) = w0 := ⟨_, rfl⟩
  have b0 : Box w0 w.heap.size 24 #[.slice none 0 0] := by rw [← hw0]; exact (Box.new w _ _ rfl).alloc _
  have b1 : Box w0 (w.heap.size + 1) 24 #[.slice none 0 0] := by rw [← hw0]; exact Box.new _ _ _ (by simp)
  have hB0 : Below w.heap.size w w0 := by rw [← hw0]; exact (by repeat (first | exact Below.refl _ _ | assumption | refine Below.setCell ?_ (by first | (simp; done) | (simp; omega)) _ | refine belowDrewN ?_ _ | refine Below.drew ?_ | refine Below.alloc ?_ (by first | (simp; done) | (simp; omega)) _))
  have hs0 : w0.heap.size = w.heap.size + 1 + 1 := by rw [← hw0]; simp
  have HS0 := Lib.hid hs0
  have HW0 := Lib.hid hw0
  clear hw0 hs0
  obtain ⟨p1, p2⟩ := hb.out i
  obtain ⟨cnt, hcnt⟩ : ∃ cnt : Nat, (cnt : Int) = 1 + f i % 3 := ⟨(1 + f i % 3).toNat, by omega⟩
  have hc1 : 1 ≤ cnt := by omega
  have hc3 : cnt ≤ 3 := by omega
  have HCNT := Lib.hid hcnt.symm
  clear hcnt
  go_enter Try.func57, Try.ntmps57
  go_wp2_with fail
  rw [HW0.out]
  go_loopw [6, 7] (fun s6 s7 wr => ∃ (k : Nat) (at_ : Int) (ks : List Knot) (v : Value), k ≤ cnt ∧ s7 = .int .i64 k ∧ s6 = .int .i64 at_ ∧ Hid (ks.length = k ∧ LineSo ks at_) ∧ Hid (wr.ownsRow w0.heap.size 71 2 v k (ks.flatMap knotC)) ∧ Hid (Box wr (w.heap.size + 1) 24 #[v] ∧ Box wr w.heap.size 24 #[.slice none 0 0]) ∧ Hid (Below w.heap.size w wr) ∧ Hid (w0.heap.size ≤ wr.heap.size)) (fun _ s7 _ => cnt - (intOf s7).toNat)
  case atStart => exact ⟨0, 0, [], .slice none 0 0, Nat.zero_le _, rfl, rfl, ⟨rfl, LineSo.nil⟩, World.ownsRow_nil _ _ _ _, ⟨b1, b0⟩, hB0, Nat.le_refl _⟩
  case round =>
    obtain ⟨k, at_, ks, v, hk, rfl, rfl, hks, hown, hbx, BW, hsz⟩ := hrel
    by_cases hlt : k < cnt
    · have hd : decide ((k : Int) < (1 + f i % 3)) = true := decide_eq_true (by rw [HCNT.out]; omega)
      obtain ⟨r1, r2⟩ := hb.out (i + k + 1)
      have hat := hks.out.2.lo
      have hat2 := hks.out.2.hi
      rw [hks.out.1] at hat2
      have g0 := hbx.out.1.cell 0
      have g1 := hbx.out.1.frozen 0
      simp only [List.getElem?_toArray, List.getElem?_cons_zero] at g0
      have hblt := hbx.out.1.lt
      go_wp2_with fail
      refine (HP.out wr BW.out i (by omega)).mono ?_
      rintro e w' ⟨rfl, rfl⟩
      go_wp2_with fail
      have hp2 := HP.out wr BW.out (i + k + 1) (by omega)
      rw [show ((i + k + 1 : Nat) : Int) = (i : Int) + (k : Int) + 1 by omega] at hp2
      have HP2 := Lib.hid hp2
      clear hp2
      refine HP2.out.mono ?_
      rintro e w' ⟨rfl, rfl⟩
      generalize f (i + k + 1) = nn at *
      go_wp2_with (at_builtin; refine wpList_append_own _ rfl _ _ 22 rfl w0.heap.size 71 i0 (.agg #[.int .i64 0, .int .i64 0]) 2 16 Try.underlying22 hi0 hz0 hz1 hz2 rfl (by decide) v k (ks.flatMap knotC) rfl (hown.out.alloc _) ⟨wr.heap.size, 0, none⟩ 1 1 (knotC ⟨at_, nn % 2000000000⟩) rfl rfl ?_ ?_ ?_ ?_ ?_ ?_)
      · exact cells_new wr (knotC ⟨at_, nn % 2000000000⟩) 71
      · simp [knotC, Value.oneCell']
      · unfold maxLen; omega
      · omega
      · have := hsz.out; simp; omega
      intro v' w1 hown1 hg1 _
      have hB1 := Lib.hid (below_grown ((Below.refl w0.heap.size wr).alloc hsz.out _) (hown.out.alloc _) hg1 (by have := hsz.out; simp; omega))
      obtain ⟨A2, c2, rfl, _, _⟩ := own_form hown1
      have HO1 := Lib.hid hown1
      clear hown1 hg1 g0 g1
      have c1 := hbx.out.1.below hB1.out (by rw [HS0.out]; omega)
      have c0 := hbx.out.2.below hB1.out (by rw [HS0.out]; omega)
      have BW1 := BW.out.trans (hB1.out.mono hB0.size)
      have HC1 := Lib.hid c1
      have HC0 := Lib.hid c0
      have g0 := c1.cell 0
      have g1 := c1.frozen 0
      simp only [List.getElem?_toArray, List.getElem?_cons_zero] at g0
      clear c1 c0
      go_wp2_with fail
      go_roundw
      case rel =>
        refine ⟨k + 1, _, ks ++ [⟨at_, nn % 2000000000⟩], .slice A2 (k + 1) c2, hlt, by go_num, rfl, ⟨by rw [List.length_append, hks.out.1]; rfl, hks.out.2.snoc (by omega) (by omega) (by omega) (by omega)⟩, ?_, ⟨?_, ?_⟩, ?_, ?_⟩
        · have := own_far (p := ⟨w.heap.size + 1, 0, none⟩) HO1.out (by rw [HS0.out]; simp) (.slice A2 (k + 1) c2)
          unfold Hid
          rw [List.flatMap_append]
          simpa using this
        · have := HC1.out.set_ 0 (.slice A2 (k + 1) c2)
          simpa using this
        · exact HC0.out.far (by simp) _
        · exact BW1.setCell (p := ⟨w.heap.size + 1, 0, none⟩) (by simp) _
        · have h1 := hB1.out.size
          have h2 := hsz.out
          simp [Hid]
          omega
      case measure => simp [intOf]; omega
    · have hd : decide ((k : Int) < (1 + f i % 3)) = false := decide_eq_false (by rw [HCNT.out]; omega)
      have g0 := hbx.out.1.cell 0
      have g2 := hbx.out.2.cell 0
      have g3 := hbx.out.2.frozen 0
      simp only [List.getElem?_toArray, List.getElem?_cons_zero] at g0 g2
      go_wp2_with fail
      refine (HP.out wr BW.out i (by omega)).mono ?_
      rintro e w' ⟨rfl, rfl⟩
      have hkn := own_far (p := ⟨w.heap.size, 0, none⟩) hown.out (by rw [HS0.out]; simp; omega) v
      rw [← hks.out.1] at hkn
      obtain ⟨A', c', rfl, _, _⟩ := own_form hkn
      have HKN := Lib.hid hkn
      clear hkn
      go_wp2_with fail
      have e0 := hbx.out.2.set_ 0 (.slice A' ks.length c')
      refine bodyPost_ret (results_cell1 rfl _ _ _ w.heap.size (.agg #[.slice A' ks.length c']) rfl (load_line (t := 24) (by simpa using e0))) rfl ?_
      refine ⟨⟨A', c', ks, rfl, ?_, hks.out.2.ok (by rw [hks.out.1]; omega) (by rw [hks.out.1]; omega)⟩, BW.out.setCell (p := ⟨w.heap.size, 0, none⟩) (Nat.le_refl _) _⟩
      exact own_le HKN.out (by rw [HS0.out]; omega)

end Go.Proofs.Ytannipfohicpmaa
