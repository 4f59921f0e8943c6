/- The law FluidHeights, walked. -/
import Derived.Test.YtkommjjpaklenaaFAnnulus
import Derived.Test.YtkommjjpaklenaaFGood
import Derived.Test.YtkommjjpaklenaaFWhere
import Derived.Test.YtkommjjpaklenaaSameLine
import Derived.Test.YtkommjjpaklenaaFAwake
import Derived.Test.YtkommjjpaklenaaFOpen
import Derived.Test.YtkommjjpaklenaaInv
import Derived.Deep.RegionHeld3
import Derived.Deep.DeepCutAuto
namespace Mpl
theorem passed_pos {l : List Seg} {u : Int} (h0 : 0 ≤ u) (h : 0 < l.length) : 1 ≤ passed l u 0 l.length := by
  obtain ⟨m, hm⟩ : ∃ m, l.length = m + 1 := ⟨l.length - 1, by omega⟩
  rw [hm, passed, if_neg (by simp [sizeUp, sumFrom]; omega)]
  have : ∀ (m k : Nat), k ≤ passed l u k m := by
    intro m
    induction m with
    | zero => intro k; simp [passed]
    | succ m ih =>
      intro k
      rw [passed]
      split
      · omega
      · have := ih (k + 1); omega
  exact this m 1
theorem where_pos {l : List Seg} {u : Int} (h0 : 0 ≤ u) (h : 0 < l.length) (hi : inHole l u = true) : 0 ≤ whereOf l u := by
  unfold whereOf
  rw [hi, if_pos rfl]
  have := passed_pos h0 h
  omega
theorem height_check {l : List Seg} (g : GoodHole l) : checkLine (heightOf l) 1099511627776 1048576 = 0 := by
  rw [heightOf_good g]
  exact good_checkLine (hk_good g) (by omega) (by omega) (by omega) (by omega)
end Mpl
namespace Go.Proofs.Ytkommjjpaklenaa
open Go.RowKit Go.Shelf Mpl

theorem at_actH {P : Program} {md : Region.Mode} {ops : Array Oper} {Q : Exit → Act → World → Prop} {S : World → Prop} {z m : Nat} {b : Array Bool} {a : Act} {W : World} (H : ∀ a', a = a' → AnyBut P md ops Q S z m b a' W) : AnyBut P md ops Q S z m b a W := H a rfl

/-- one block made and filled with a line, next to two calls -/
structure OneL (B : Nat) (ks : List Knot) (vol : Int) (d1 d2 a1 s1 : Bool) (u1 u2 p1 : Value) (w : World) : Prop where
  r1 : d1 = true → ∃ A c, u1 = .agg #[.slice A ks.length c] ∧ Knots w w.heap.size A ks
  r2 : d2 = true → u2 = .int .i64 vol
  l1 : a1 = true → ∃ g A n c, p1 = .pointer (some ⟨g, 0, none⟩) ∧ B ≤ g ∧ Box w g 49 #[.slice A n c] ∧ (s1 = true → d1 = true ∧ u1 = .agg #[.slice A n c])
section
variable {B : Nat} {ks : List Knot} {vol : Int} {d1 d2 a1 s1 : Bool} {u1 u2 p1 : Value} {w w' : World}
theorem OneL.none : OneL B ks vol false false false false u1 u2 p1 w := ⟨fun h => (by cases h), fun h => (by cases h), fun h => (by cases h)⟩
theorem OneL.under (h : OneL B ks vol d1 d2 a1 s1 u1 u2 p1 w) (hb : Below w.heap.size w w') : OneL B ks vol d1 d2 a1 s1 u1 u2 p1 w' :=
  ⟨fun e => by obtain ⟨A, c, h1, h2⟩ := h.r1 e; exact ⟨A, c, h1, h2.up hb hb.size⟩, h.r2, fun e => by obtain ⟨g, A, n, c, h1, h2, h3, h4⟩ := h.l1 e; exact ⟨g, A, n, c, h1, h2, h3.under hb, h4⟩⟩
theorem OneL.call1 (h : OneL B ks vol false d2 a1 false u1 u2 p1 w) {A : Option Addr} {c : Nat} (hk : Knots w w.heap.size A ks) : OneL B ks vol true d2 a1 false (.agg #[.slice A ks.length c]) u2 p1 w :=
  ⟨fun _ => ⟨A, c, rfl, hk⟩, h.r2, fun e => by obtain ⟨g, A', n, c', h1, h2, h3, h4⟩ := h.l1 e; exact ⟨g, A', n, c', h1, h2, h3, fun e => by cases e⟩⟩
theorem OneL.call2 (h : OneL B ks vol d1 d2 a1 s1 u1 u2 p1 w) : OneL B ks vol d1 true a1 s1 u1 (.int .i64 vol) p1 w := ⟨h.r1, fun _ => rfl, h.l1⟩
theorem OneL.make (h : OneL B ks vol d1 d2 false false u1 u2 p1 w) (hB : B ≤ w.heap.size) : OneL B ks vol d1 d2 true false u1 u2 (.pointer (some ⟨w.heap.size, 0, Option.none⟩)) (w.alloc (.cells #[.slice Option.none 0 0] 49)) := by
  have h' := h.under ((Below.refl _ w).alloc (Nat.le_refl _) (.cells #[.slice Option.none 0 0] 49))
  exact ⟨h'.r1, h'.r2, fun _ => ⟨_, _, _, _, rfl, hB, Box.new _ _ _ rfl, fun e => by cases e⟩⟩
theorem knots_apart {g n c : Nat} {A A' : Option Addr} (hk : Knots w B A ks) (hb : Box w g 49 #[.slice A' n c]) (v : Value) : Knots (w.setCell ⟨g, 0, Option.none⟩ v) B A ks := fun h0 => by
  obtain ⟨b, off, rfl, hlt, hc⟩ := hk h0
  have hne : b ≠ g := fun e => by
    subst e
    have c0 := hc 0 h0 0 (by omega)
    have c1 := hb.cell (off + 0 * 2 + 0)
    rw [c0] at c1
    rcases Nat.eq_zero_or_pos off with h | h
    · subst h; simp [knF] at c1
    · rw [show off + 0 * 2 + 0 = off by omega, Array.getElem?_eq_none (by simp <;> omega)] at c1
      cases c1
  exact ⟨b, off, rfl, hlt, fun i hi j hj => by rw [World.cell?_setCell_other _ _ _ _ (by simp <;> omega)]; exact hc i hi j hj⟩
theorem OneL.put {g : Nat} {A : Option Addr} {c : Nat} (h : OneL B ks vol true d2 true s1 (.agg #[.slice A ks.length c]) u2 (.pointer (some ⟨g, 0, Option.none⟩)) w) : OneL B ks vol true d2 true true (.agg #[.slice A ks.length c]) u2 (.pointer (some ⟨g, 0, Option.none⟩)) (w.setCell ⟨g, 0, Option.none⟩ (.slice A ks.length c)) := by
  obtain ⟨g', A', n', c', h1, h2, h3, h4⟩ := h.l1 rfl
  simp at h1
  subst h1
  obtain ⟨A2, c2, e, hk⟩ := h.r1 rfl
  simp at e
  obtain ⟨rfl, rfl⟩ := e
  refine ⟨fun _ => ⟨A, c, rfl, ?_⟩, h.r2, fun _ => ⟨g, A, ks.length, c, rfl, h2, by simpa using h3.set_ 0 (.slice A ks.length c), fun _ => ⟨rfl, rfl⟩⟩⟩
  have := knots_apart hk h3 (.slice A ks.length c)
  simpa using this
end
theorem hole_cell1 {w : World} {g t : Nat} {v : Value} (h : Box w g t #[v]) : w.cell? ⟨g, 0, none⟩ = some v := h.cell 0
def keyH11 (i : Nat) (d1 d2 a1 a2 : Bool) : Bool := (i == 2 && !d1) || (i == 6 && d1 && !d2) || (i == 7 && !a1) || (i == 8 && !a2) || (i == 9 && d1 && a1) || (i == 10 && d2 && a2)
theorem two_ofH {cs : Array Value} {a b : Value} (h : cs.size = (#[a, b] : Array Value).size) : ∃ x y, cs = #[x, y] := by
  obtain ⟨l⟩ := cs
  match l, h with
  | [x, y], _ => exact ⟨x, y, rfl⟩
theorem rng_box2H {w : World} {g : Nat} {a b : Value} (h : Box w g 34 #[a, b]) : w.cell? ⟨g, 0, none⟩ = some a ∧ w.cell? ⟨g, 1, none⟩ = some b := ⟨h.cell 0, h.cell 1⟩
theorem rng_free2H {w : World} {g : Nat} {a b : Value} (h : Box w g 34 #[a, b]) : w.frozen? ⟨g, 0, none⟩ = false ∧ w.frozen? ⟨g, 1, none⟩ = false := ⟨h.frozen 0, h.frozen 1⟩
theorem rng_putH {W : World} {g : Nat} {x y : Value} (hx : Box W g 34 #[x, y]) (a b : Value) : Box ((W.setCell ⟨g, 0, none⟩ a).setCell ⟨g, 1, none⟩ b) g 34 #[a, b] := by simpa using (hx.set_ 0 a).set_ 1 b
theorem put_farH {W : World} {g : Nat} (a b : Value) (g' t' : Nat) (cs' : Array Value) (hne : g' ≠ g) (h : Box W g' t' cs') : Box ((W.setCell ⟨g, 0, none⟩ a).setCell ⟨g, 1, none⟩ b) g' t' cs' := (h.far hne _).far hne _
def keyH2 (i : Nat) (d1 d2 a1 s1 c1 : Bool) : Bool := (i == 1 && !d1) || (i == 3 && d1 && !d2) || (i == 4 && !a1) || (i == 5 && d1 && a1 && !s1) || (i == 6 && d2 && !c1)

set_option maxHeartbeats 8000000 in
set_option maxRecDepth 100000 in
theorem walk_FluidHeights (l : List Int) (A : Option Addr) (c : Nat) (u0 : Int) (w : World) (hl : Ints w w.heap.size A l) (hlin : IntsIn l) (hc : l.length ≤ c) (hm : c ≤ maxLen) (h1 : inI64 u0) :
    Calls Try.prog 6 #[.slice A l.length c, .int .i64 u0] w fun e w' => e = .returned (.bool true) ∧ Below w.heap.size w w' := by
  have HAN := Lib.hid (kit_Annulus l A c w hl hlin (by omega))
  have K1 := Lib.hid (fun V w (hV : 0 < V) (hV2 : V ≤ 5242880000) => kit_Mod64 u0 V w h1 hV (by omega))
  have hnq := run_neq_knot
  clear hl hlin h1
  generalize l.length = nl at *
  go_enter Try.func6, Try.ntmps6
  go_wp2_with fail
  refine HAN.out.mono ?_
  rintro e w1 ⟨⟨A', c', h, rfl, hown, hann⟩, hb1⟩
  have gh := hann.good
  obtain ⟨w2, hw2⟩ : ∃ w2, w1.alloc (.cells #[.slice A' h.length c'] 25) = w2 := ⟨_, rfl⟩
  have HV := Lib.hid (show HoleV w2 w2.heap.size (.agg #[.slice A' h.length c']) h by rw [← hw2]; exact (own_hole hown).alloc _)
  have BX := Lib.hid (show Box w2 w1.heap.size 25 #[.slice A' h.length c'] by rw [← hw2]; exact Box.new _ _ _ rfl)
  have HB := Lib.hid (show Below w.heap.size w w2 by rw [← hw2]; exact hb1.alloc hb1.size _)
  have HW2 := Lib.hid hw2
  have hV := (gh.ups h.length (Nat.le_refl _)).2.2.2.2.2
  have hV1 := hann.one_le
  have hpos := hann.pos
  have hfew := hann.few
  have hmax : h.length ≤ maxLen := by unfold maxLen; omega
  have HHE := Lib.hid (fun W (hW : Below w2.heap.size w2 W) => fluid_Height _ h W (HV.out.below hW) gh.in_ hmax)
  have HVO := Lib.hid (fun W (hW : Below w2.heap.size w2 W) => (by have := fluid_Volume _ h W (HV.out.below hW) gh.in_ hmax; rw [show volumeOf h = sizeUp h h.length by unfold volumeOf; rw [if_pos ((checkHole_iff h).2 gh)]] at this; exact this : Calls Try.prog 26 #[.agg #[.slice A' h.length c']] W fun e w' => e = .returned (.int .i64 (sizeUp h h.length)) ∧ Below W.heap.size W w'))
  have HCL := Lib.hid (fun v W hv => (by have := earth_CheckLine v (heightOf h) 1099511627776 1048576 W hv; rw [height_check gh] at this; exact this : Calls Try.prog 33 #[v, .int .i64 1099511627776, .int .i64 1048576] W fun e w' => e = .returned (.int .i64 0) ∧ Below W.heap.size W w'))
  have HAT := Lib.hid (fun v x W hv => earth_At (heightOf h) v x W hv)
  have HWH := Lib.hid (fun u W (hW : Below w2.heap.size w2 W) => fluid_Where _ h u W (HV.out.below hW) gh.in_ hmax)
  have HWP := Lib.hid (fun u (h0 : 0 ≤ u) (h1 : u ≤ sizeUp h h.length) => where_pos h0 hpos (by unfold inHole; rw [(checkHole_iff h).2 gh]; simp [within]; omega))
  have HMO := Lib.hid (fun x y (hxy : x ≤ y) => height_mono gh hxy)
  have hlen : (heightOf h).length = h.length + 1 := by rw [heightOf_good gh, hk_len]
  have hk0 : kn (heightOf h) 0 = ⟨0, 0⟩ := by rw [heightOf_good gh, hk_get h h.length 0 (by omega)]; simp [sizeUp, riseUp, sumFrom]
  have hkn : kn (heightOf h) h.length = ⟨sizeUp h h.length, riseUp h h.length⟩ := by rw [heightOf_good gh, hk_get h h.length h.length (by omega)]
  have HRS := Lib.hid (fun k => riseUp_step h k)
  have HRB := Lib.hid (fun k (hk : k ≤ h.length) => (gh.ups k hk))
  have HSG := Lib.hid (HV.out)
  have HGF := Lib.hid (fun i (hi : i < h.length) => gh.fair i hi)
  clear hw2 hb1 hown hann gh HAN
  generalize hks : heightOf h = ks at *
  clear hks
  have HKL := Lib.hid hlen
  have HK0 := Lib.hid hk0
  have HKN := Lib.hid hkn
  clear hk0 hkn hmax hlen
  obtain ⟨sA, sc, hsv, hss⟩ := HSG.out
  injection hsv with hsv
  have hsv' : (#[Value.slice A' h.length c'] : Array Value)[0]? = (#[Value.slice sA h.length sc] : Array Value)[0]? := by rw [hsv]
  simp at hsv'
  obtain ⟨e1, e2⟩ := hsv'
  subst e1
  subst e2
  obtain ⟨sb, so, rfl, hsb, hsc⟩ := hss hpos
  have HSC := Lib.hid hsc
  clear hsc hss hsv HSG
  generalize hVV : sizeUp h h.length = V at *
  generalize hRR : riseUp h h.length = R at *
  clear hVV
  have HRR := Lib.hid hRR
  clear hRR
  generalize hn : h.length = n at *
  have HN := Lib.hid hn
  clear hn
  have q0 := hole_cell1 BX.out
  go_upto_region 2 with fail
  rw [HW2.out]
  go_cut [6, 7] (fun s6 s7 wx => ∃ g A c, s6 = .pointer (some ⟨g, 0, none⟩) ∧ s7 = .int .i64 V ∧ w2.heap.size ≤ g ∧ Hid (Box wx g 49 #[.slice A ks.length c]) ∧ Hid (Knots wx wx.heap.size A ks) ∧ Hid (Below w2.heap.size w2 wx))
  case first =>
    have D1 := BX.out.drew
    have L1 : Below w2.heap.size w2 w2.drew := (Below.refl _ _).drew
    have HS := Lib.hid (fun W (h0 : Below w2.heap.size w2 W) => hole_cell1 (BX.out.under h0))
    refine AnyBut.begin (S := fun w' : World => w'.cell? ⟨w1.heap.size, 0, none⟩ = some (.slice (some ⟨sb, so, none⟩) n c')) (z := 100) mixed ?_
    refine AnyBut.take (i := 0) (v := .agg #[.slice (some ⟨sb, so, none⟩) n c']) rfl (by decide +kernel) (by decide +kernel) (by decide +kernel) (by decide +kernel) (fun _ _ _ h => h) (HS.out _ L1) (Or.inl ⟨by simp [Region.wanted], fun w' hw' => by go_simp⟩) ?_
    refine AnyBut.take (i := 2) (v := .agg #[.slice (some ⟨sb, so, none⟩) n c']) rfl (by decide +kernel) (by decide +kernel) (by decide +kernel) (by decide +kernel) (fun _ _ _ h => h) (HS.out _ L1) (Or.inl ⟨by simp [Region.wanted], fun w' hw' => by go_simp⟩) ?_
    refine at_actH fun a' ha' => ?_
    simp [Act.put] at ha'
    subst ha'
    refine any_from (F := fun b0 a0 b a W => ∃ (d1 d2 a1 s1 c1 : Bool) (v1 v2 p1 p2 : Value), b = (((((b0.setIfInBounds 1 d1).setIfInBounds 3 d2).setIfInBounds 4 a1).setIfInBounds 5 s1).setIfInBounds 6 c1) ∧ a = { tmps := ((((a0.tmps.setIfInBounds 15 v1).setIfInBounds 17 v2).setIfInBounds 6 p1).setIfInBounds 7 p2), defers := a0.defers } ∧ Below w2.heap.size w2 W ∧ OneL w2.heap.size ks V d1 d2 a1 s1 v1 v2 p1 W ∧ (c1 = true → p2 = .int .i64 V) ∧ (s1 = true → a1 = true ∧ d1 = true)) (by decide +kernel) ?h0 ?hS ?hs ?hd
    case h0 => exact ⟨false, false, false, false, false, undef, undef, undef, undef, by decide +kernel, by simp, L1, OneL.none, fun e => (by cases e), fun e => (by cases e)⟩
    case hS =>
      rintro b a W ⟨d1, d2, a1, s1, c1, v1, v2, p1, p2, _, _, h, ht, hc1, hc2⟩
      exact HS.out _ h
    case hs =>
      rintro b a W ⟨d1, d2, a1, s1, c1, v1, v2, p1, p2, rfl, rfl, h, ht, hc1, hc2⟩ i hi
      have kb : keyH2 i d1 d2 a1 s1 c1 = true := by
        clear h ht hc1 hc2
        revert i
        revert d1 d2 a1 s1 c1
        decide +kernel
      have key : (i = 1 ∧ d1 = false) ∨ (i = 3 ∧ d1 = true ∧ d2 = false) ∨ (i = 4 ∧ a1 = false) ∨ (i = 5 ∧ d1 = true ∧ a1 = true ∧ s1 = false) ∨ (i = 6 ∧ d2 = true ∧ c1 = false) := by simpa [keyH2, and_assoc, or_assoc] using kb
      clear kb hi
      rcases key with ⟨rfl, hk⟩ | ⟨rfl, hk⟩ | ⟨rfl, hk⟩ | ⟨rfl, hk⟩ | ⟨rfl, hk⟩
      · have hs1 : s1 = false := by cases s1; rfl; exact absurd (hk.symm.trans (hc2 rfl).2) (by decide)
        subst hk hs1
        refine ⟨_, rfl, rfl, fun K hK => ?_⟩
        go_simp
        refine (HHE.out _ h).mono ?_
        rintro e W' ⟨⟨v, rfl, A9, c9, rfl, hk9⟩, hb⟩
        refine hK _ _ ⟨true, d2, a1, false, c1, .agg #[.slice A9 ks.length c9], v2, p1, p2, (by clear hK K h ht hc1 hc2 hk9; revert d2 a1 c1; decide +kernel), by simp, h.trans (hb.mono h.size), (ht.under hb).call1 hk9, hc1, fun e => (by cases e)⟩
      · refine ⟨_, rfl, rfl, fun K hK => ?_⟩
        go_simp
        refine (HVO.out _ h).mono ?_
        rintro e W' ⟨rfl, hb⟩
        refine hK _ _ ⟨d1, true, a1, s1, c1, v1, .int .i64 V, p1, p2, (by clear hK K h ht hc1 hc2; revert d1 d2 a1 s1 c1; decide +kernel), by simp, h.trans (hb.mono h.size), (ht.under hb).call2, hc1, hc2⟩
      · have hs1 : s1 = false := by cases s1; rfl; exact absurd (hk.symm.trans (hc2 rfl).1) (by decide)
        subst hk hs1
        refine ⟨_, rfl, rfl, fun K hK => ?_⟩
        go_simp
        refine hK _ _ ⟨d1, d2, true, false, c1, v1, v2, .pointer (some ⟨W.heap.size, 0, none⟩), p2, (by clear hK K h ht hc1 hc2; revert d1 d2 c1; decide +kernel), by simp, h.alloc h.size _, ht.make h.size, hc1, fun e => (by cases e)⟩
      · obtain ⟨h1, h2, h3⟩ := hk
        subst h1 h2 h3
        obtain ⟨A9, c9, rfl, hk9⟩ := ht.r1 rfl
        obtain ⟨g, B9, n9, d9, rfl, hg, hx, _⟩ := ht.l1 rfl
        have x0 := hx.cell 0
        have x2 := hx.frozen 0
        simp only [List.getElem?_toArray, List.getElem?_cons_zero] at x0
        have t1 := ht.put
        refine ⟨_, rfl, rfl, fun K hK => ?_⟩
        go_simp
        refine hK _ _ ⟨true, d2, true, true, c1, .agg #[.slice A9 ks.length c9], v2, .pointer (some ⟨g, 0, none⟩), p2, (by clear hK K h ht t1 hc1 hc2 hk9; revert d2 c1; decide +kernel), by simp, h.setCell (p := ⟨g, 0, none⟩) hg _, t1, hc1, fun _ => ⟨rfl, rfl⟩⟩
      · obtain ⟨h1, h2⟩ := hk
        subst h1 h2
        obtain rfl := ht.r2 rfl
        refine ⟨_, rfl, rfl, fun K hK => ?_⟩
        go_simp
        refine hK _ _ ⟨d1, true, a1, s1, true, v1, .int .i64 V, p1, .int .i64 V, (by clear hK K h ht hc1 hc2; revert d1 a1 s1; decide +kernel), by simp, h, ht, fun _ => rfl, hc2⟩
    case hd =>
      rintro b a W ⟨d1, d2, a1, s1, c1, v1, v2, p1, p2, rfl, rfl, h, ht, hc1, hc2⟩ hr
      have key : s1 = true ∧ c1 = true := by
        clear h ht hc1 hc2
        revert d1 d2 a1 s1 c1
        decide +kernel
      obtain ⟨g, B9, n9, d9, rfl, hg, hx, e7⟩ := ht.l1 (hc2 key.1).1
      obtain ⟨e8, rfl⟩ := e7 key.1
      obtain ⟨A9, c9, e9, hk9⟩ := ht.r1 e8
      simp at e9
      obtain ⟨rfl, rfl, rfl⟩ := e9
      obtain rfl := hc1 key.2
      clear hr key
      simp
      go_wp2_with fail
      go_meet
      exact ⟨_, _, _, rfl, rfl, hg, hx, hk9, h⟩
  case rest =>
    obtain ⟨g, A9, c9, rfl, rfl, hg, XL, XK, XB⟩ := hcut
    have LV := Lib.hid (show LineV wc wc.heap.size (.agg #[.slice A9 ks.length c9]) ks from ⟨A9, c9, rfl, XK.out⟩)
    have XH := Lib.hid (BX.out.under XB.out)
    have q1 := hole_cell1 XL.out
    obtain ⟨kb, ko, rfl, hkb, hkc⟩ := Knots.out XK.out (by rw [HKL.out]; omega)
    obtain ⟨k0, k1⟩ := hkc 0 (by rw [HKL.out]; omega)
    obtain ⟨k2, k3⟩ := hkc n (by rw [HKL.out]; omega)
    rw [HK0.out] at k0 k1
    rw [HKN.out] at k2 k3
    simp only [Nat.zero_mul, Nat.add_zero] at k0 k1
    clear hkc HHE HVO HK0 HKN q0 HW2
    have q0 := hole_cell1 XH.out
    have KK0 := Lib.hid k0
    have KK1 := Lib.hid k1
    have KK2 := Lib.hid k2
    have KK3 := Lib.hid k3
    have hkl := HKL.out
    rw [hkl] at q1 XL LV
    clear hkl
    have LV' : Hid (∀ W, Below wc.heap.size wc W → LineV W W.heap.size (.agg #[.slice (some ⟨kb, ko, none⟩) (n + 1) c9]) ks) := fun W hb => LV.out.up hb hb.size
    go_wp2_with fail
    refine (HCL.out _ _ LV.out).mono ?_
    rintro e w4 ⟨rfl, hb4⟩
    have X4 := Lib.hid (XL.out.under hb4)
    have Y4 := Lib.hid (XH.out.under hb4)
    have B4 := Lib.hid hb4
    clear q0 q1 k0 k1 k2 k3
    have q0 := hole_cell1 Y4.out
    have q1 := hole_cell1 X4.out
    have k0 := oldCell B4.out hkb KK0.out
    have k1 := oldCell B4.out hkb KK1.out
    have k2 := oldCell B4.out hkb KK2.out
    have k3 := oldCell B4.out hkb KK3.out
    have z0 : ((n + 1 : Nat) : Int) - 1 = (n : Int) := by omega
    have z1 : (n : Int) + 1 - 1 = (n : Int) := by omega
    have z2 : ((n : Int) != (n : Int)) = false := by simp
    have z3 : (((n + 1 : Nat) : Int) != (n : Int) + 1) = false := by simp
    have z4 : (V != V) = false := by simp
    have hkb4 : kb < w4.heap.size := by have := B4.out.size; omega
    clear hb4
    go_wp2_with fail
    have BB4 := Lib.hid (XB.out.trans (B4.out.mono XB.out.size))
    have hsb4 : sb < w4.heap.size := by have := BB4.out.size; omega
    clear z0 z1 z2 z3 z4
    go_loop [8, 9] (fun s8 s9 => ∃ k : Nat, k ≤ n ∧ s9 = .int .i64 k ∧ s8 = .int .i64 (riseUp h k)) (fun _ s9 => n - (intOf s9).toNat)
    case atStart => exact ⟨0, Nat.zero_le _, rfl, rfl⟩
    case round =>
      obtain ⟨k, hk, rfl, rfl⟩ := hrel
      by_cases hlt : k < n
      · obtain ⟨c0, c1, c2, c3⟩ := HSC.out k hlt
        have d1 := oldCell BB4.out hsb c1
        have t0 : decide (k < n) = true := decide_eq_true hlt
        have b1 : (k : Int) < (n : Int) := by omega
        have hr0 := HRB.out k (by omega)
        have hst := HRS.out k
        have hg1 := (HGF.out k hlt).rise0
        have hr1 := HRB.out (k + 1) (by omega)
        rw [hst] at hr1
        obtain ⟨_, v1, v2, v3, _, _⟩ := hr0
        obtain ⟨_, v4, v5, v6, _, _⟩ := hr1
        have HQ := Lib.hid hst
        clear c0 c1 c2 c3 hst
        generalize riseUp h k = rr at *
        generalize (sg h k).Rise = rs at *
        generalize longUp h k = lu at *
        generalize longUp h (k + 1) = lu2 at *
        go_wp2_with fail
        go_round
        case rel => exact ⟨k + 1, hlt, by go_num, by rw [HQ.out]⟩
        case measure => simp [intOf]; omega
      · obtain rfl : k = n := by omega
        have t0 : decide (k < k) = false := decide_eq_false hlt
        rw [HRR.out]
        have KU := Lib.hid (fun w => K1.out V w (by omega) hV)
        have hu0 := Int.emod_nonneg u0 (show V ≠ 0 by omega)
        have hu1 := Int.emod_lt_of_pos u0 (show 0 < V by omega)
        generalize u0 % V = u at *
        clear K1
        have A1 := Lib.hid (fun W (hW : Below w4.heap.size w4 W) => HAT.out _ u W (LV'.out W (B4.out.trans (hW.mono B4.out.size))))
        have A2 := Lib.hid (fun W (hW : Below w4.heap.size w4 W) => HAT.out _ (u + 1) W (LV'.out W (B4.out.trans (hW.mono B4.out.size))))
        have WH := Lib.hid (fun W (hW : Below w4.heap.size w4 W) => HWH.out u W (BB4.out.trans (hW.mono BB4.out.size)))
        have WP := HWP.out u hu0 (by omega)
        obtain ⟨mo1, mo2⟩ := HMO.out u (u + 1) (by omega)
        clear HAT HWH HWP HMO HRB HRS HGF HSC
        generalize (At ks u).Lo = alo at *
        generalize (At ks u).Hi = ahi at *
        generalize (At ks (u + 1)).Lo = blo at *
        generalize (At ks (u + 1)).Hi = bhi at *
        generalize whereOf h u = wh at *
        have hwu : IntKind.i64.wrap (u + 1) = u + 1 := IntWalk.i64_in _ (by omega)
        go_upto_region 10 with fail
        go_wp2_with (go_at_call 20; refine (KU.out _).mono ?_; rintro e w' ⟨rfl, rfl⟩)
        clear KU
        have HS := Lib.hid (fun W (h0 : Below w4.heap.size w4 W) => hole_cell1 (X4.out.under h0))
        have L1 : Below w4.heap.size w4 w4.drew := (Below.refl _ _).drew
        go_cut [10, 11] (fun s10 s11 wx => ∃ g7 g8, s10 = .pointer (some ⟨g7, 0, none⟩) ∧ s11 = .pointer (some ⟨g8, 0, none⟩) ∧ Hid (Box wx g7 34 #[.int .i64 alo, .int .i64 ahi]) ∧ Hid (Box wx g8 34 #[.int .i64 blo, .int .i64 bhi]) ∧ Hid (Below w4.heap.size w4 wx))
        case first =>
          refine AnyBut.begin (S := fun w' : World => w'.cell? ⟨g, 0, none⟩ = some (.slice (some ⟨kb, ko, none⟩) (k + 1) c9)) (z := 100) mixed ?_
          refine AnyBut.take (i := 0) (v := .agg #[.slice (some ⟨kb, ko, none⟩) (k + 1) c9]) rfl (by decide +kernel) (by decide +kernel) (by decide +kernel) (by decide +kernel) (fun _ _ _ h => h) (HS.out _ L1) (Or.inl ⟨by simp [Region.wanted], fun w' hw' => by go_simp⟩) ?_
          refine AnyBut.take (i := 1) (v := .int .i64 u) rfl (by decide +kernel) (by decide +kernel) (by decide +kernel) (by decide +kernel) (fun _ _ _ h => h) (HS.out _ L1) (Or.inl ⟨by simp [Region.wanted], fun w' hw' => by go_simp⟩) ?_
          refine AnyBut.take (i := 3) (v := .agg #[.slice (some ⟨kb, ko, none⟩) (k + 1) c9]) rfl (by decide +kernel) (by decide +kernel) (by decide +kernel) (by decide +kernel) (fun _ _ _ h => h) (HS.out _ L1) (Or.inl ⟨by simp [Region.wanted], fun w' hw' => by go_simp⟩) ?_
          refine AnyBut.take (i := 4) (v := .int .i64 u) rfl (by decide +kernel) (by decide +kernel) (by decide +kernel) (by decide +kernel) (fun _ _ _ h => h) (HS.out _ L1) (Or.inl ⟨by simp [Region.wanted], fun w' hw' => by go_simp⟩) ?_
          refine AnyBut.take (i := 5) (v := .int .i64 (u + 1)) rfl (by decide +kernel) (by decide +kernel) (by decide +kernel) (by decide +kernel) (fun _ _ _ h => h) (HS.out _ L1) (Or.inl ⟨by simp [Region.wanted], fun w' hw' => by go_simp⟩) ?_
          refine at_actH fun a' ha' => ?_
          simp [Act.put] at ha'
          subst ha'
          refine any_from (F := fun b0 a0 b a W => ∃ (d1 d2 a1 a2 s1 s2 : Bool) (v1 v2 p1 p2 : Value), b = ((((((b0.setIfInBounds 2 d1).setIfInBounds 6 d2).setIfInBounds 7 a1).setIfInBounds 8 a2).setIfInBounds 9 s1).setIfInBounds 10 s2) ∧ a = { tmps := ((((a0.tmps.setIfInBounds 72 v1).setIfInBounds 76 v2).setIfInBounds 10 p1).setIfInBounds 11 p2), defers := a0.defers }
            ∧ Below w4.heap.size w4 W ∧ Two w4.heap.size 34 #[.int .i64 alo, .int .i64 ahi] #[.int .i64 blo, .int .i64 bhi] d1 d2 a1 a2 s1 s2 v1 v2 p1 p2 W ∧ (s1 = true → a1 = true) ∧ (s2 = true → a2 = true)) (by decide +kernel) ?h0 ?hS ?hs ?hd
          case h0 => exact ⟨false, false, false, false, false, false, u72, u76, undef, undef, by decide +kernel, by simp, L1, Two.none, fun e => (by cases e), fun e => (by cases e)⟩
          case hS =>
            rintro b a W ⟨d1, d2, a1, a2, s1, s2, v1, v2, p1, p2, _, _, h, ht, hc1, hc2⟩
            exact HS.out _ h
          case hs =>
            rintro b a W ⟨d1, d2, a1, a2, s1, s2, v1, v2, p1, p2, rfl, rfl, h, ht, hc1, hc2⟩ i hi
            have kb : keyH11 i d1 d2 a1 a2 = true := by
              clear h ht hc1 hc2
              revert i
              revert d1 d2 a1 a2 s1 s2
              decide +kernel
            have key : (i = 2 ∧ d1 = false) ∨ (i = 6 ∧ d1 = true ∧ d2 = false) ∨ (i = 7 ∧ a1 = false) ∨ (i = 8 ∧ a2 = false) ∨ (i = 9 ∧ d1 = true ∧ a1 = true) ∨ (i = 10 ∧ d2 = true ∧ a2 = true) := by simpa [keyH11, and_assoc, or_assoc] using kb
            clear kb hi
            rcases key with ⟨rfl, hk'⟩ | ⟨rfl, hk'⟩ | ⟨rfl, hk'⟩ | ⟨rfl, hk'⟩ | ⟨rfl, hk'⟩ | ⟨rfl, hk'⟩
            · refine ⟨_, rfl, rfl, fun K hK => ?_⟩
              go_simp
              refine (A1.out _ h).mono ?_
              rintro e W' ⟨rfl, hb⟩
              refine hK _ _ ⟨true, d2, a1, a2, s1, s2, .agg #[.int .i64 alo, .int .i64 ahi], v2, p1, p2, (by clear hK K h ht hc1 hc2; revert d1 d2 a1 a2 s1 s2; decide +kernel), by simp, h.trans (hb.mono h.size), (ht.under hb).call1, hc1, hc2⟩
            · refine ⟨_, rfl, rfl, fun K hK => ?_⟩
              go_simp
              refine (A2.out _ h).mono ?_
              rintro e W' ⟨rfl, hb⟩
              refine hK _ _ ⟨d1, true, a1, a2, s1, s2, v1, .agg #[.int .i64 blo, .int .i64 bhi], p1, p2, (by clear hK K h ht hc1 hc2; revert d1 d2 a1 a2 s1 s2; decide +kernel), by simp, h.trans (hb.mono h.size), (ht.under hb).call2, hc1, hc2⟩
            · have hs1 : s1 = false := by cases s1; rfl; exact absurd (hk'.symm.trans (hc1 rfl)) (by decide)
              subst hk' hs1
              refine ⟨_, rfl, rfl, fun K hK => ?_⟩
              go_simp
              refine hK _ _ ⟨d1, d2, true, a2, false, s2, v1, v2, .pointer (some ⟨W.heap.size, 0, none⟩), p2, (by clear hK K h ht hc1 hc2; revert d1 d2 a2 s2; decide +kernel), by simp, h.alloc h.size _, ht.alloc1 #[.int .i64 0, .int .i64 0] rfl h.size, fun _ => rfl, hc2⟩
            · have hs2 : s2 = false := by cases s2; rfl; exact absurd (hk'.symm.trans (hc2 rfl)) (by decide)
              subst hk' hs2
              refine ⟨_, rfl, rfl, fun K hK => ?_⟩
              go_simp
              refine hK _ _ ⟨d1, d2, a1, true, s1, false, v1, v2, p1, .pointer (some ⟨W.heap.size, 0, none⟩), (by clear hK K h ht hc1 hc2; revert d1 d2 a1 s1; decide +kernel), by simp, h.alloc h.size _, ht.alloc2 #[.int .i64 0, .int .i64 0] rfl h.size, hc1, fun _ => rfl⟩
            · obtain ⟨h1, h2⟩ := hk'
              subst h1 h2
              obtain rfl := ht.r1 rfl
              obtain ⟨gg, cs, rfl, hgg, hx, hsz, he⟩ := ht.l1 rfl
              obtain ⟨x, y, rfl⟩ := two_ofH hsz
              obtain ⟨x0, x1⟩ := rng_box2H hx
              obtain ⟨x2, x3⟩ := rng_free2H hx
              have t1 := ht.put1 (rng_putH hx (.int .i64 alo) (.int .i64 ahi)) (put_farH _ _)
              refine ⟨_, rfl, rfl, fun K hK => ?_⟩
              go_simp
              refine hK _ _ ⟨true, d2, true, a2, true, s2, .agg #[.int .i64 alo, .int .i64 ahi], v2, .pointer (some ⟨gg, 0, none⟩), p2, (by clear hK K h ht t1 hc1 hc2 he; revert d2 a2 s1 s2; decide +kernel), by simp, (h.setCell (p := ⟨gg, 0, none⟩) hgg _).setCell (p := ⟨gg, 1, none⟩) hgg _, t1, fun _ => rfl, hc2⟩
            · obtain ⟨h1, h2⟩ := hk'
              subst h1 h2
              obtain rfl := ht.r2 rfl
              obtain ⟨gg, cs, rfl, hgg, hx, hsz, he⟩ := ht.l2 rfl
              obtain ⟨x, y, rfl⟩ := two_ofH hsz
              obtain ⟨x0, x1⟩ := rng_box2H hx
              obtain ⟨x2, x3⟩ := rng_free2H hx
              have t1 := ht.put2 (rng_putH hx (.int .i64 blo) (.int .i64 bhi)) (put_farH _ _)
              refine ⟨_, rfl, rfl, fun K hK => ?_⟩
              go_simp
              refine hK _ _ ⟨d1, true, a1, true, s1, true, v1, .agg #[.int .i64 blo, .int .i64 bhi], p1, .pointer (some ⟨gg, 0, none⟩), (by clear hK K h ht t1 hc1 hc2 he; revert d1 a1 s1 s2; decide +kernel), by simp, (h.setCell (p := ⟨gg, 0, none⟩) hgg _).setCell (p := ⟨gg, 1, none⟩) hgg _, t1, hc1, fun _ => rfl⟩
          case hd =>
            rintro b a W ⟨d1, d2, a1, a2, s1, s2, v1, v2, p1, p2, rfl, rfl, h, ht, hc1, hc2⟩ hr
            have key : s1 = true ∧ s2 = true := by
              clear h ht hc1 hc2
              revert d1 d2 a1 a2 s1 s2
              decide +kernel
            obtain ⟨g7, cs7, rfl, hg7, hx7, _, e7⟩ := ht.l1 (hc1 key.1)
            obtain ⟨g8, cs8, rfl, hg8, hx8, _, e8⟩ := ht.l2 (hc2 key.2)
            obtain rfl := e7 key.1
            obtain rfl := e8 key.2
            clear hr key e7 e8
            simp
            go_wp2_with fail
            go_meet
            exact ⟨_, _, rfl, rfl, hx7, hx8, h⟩
        case rest =>
          obtain ⟨g7, g8, rfl, rfl, X7, X8, B8⟩ := hcut
          obtain ⟨a0, a1⟩ := rng_box2H X7.out
          obtain ⟨a2, a3⟩ := rng_box2H X8.out
          have B48 := Lib.hid (B4.out.trans (B8.out.mono B4.out.size))
          have X9 := Lib.hid (X4.out.under B8.out)
          have Y9 := Lib.hid (Y4.out.under B8.out)
          clear q0 q1 k0 k1 k2 k3
          have q0 := hole_cell1 Y9.out
          have q1 := hole_cell1 X9.out
          have k3 := oldCell B48.out hkb KK3.out
          have z1 : (k : Int) + 1 - 1 = (k : Int) := by omega
          have z5 : (R == R) = true := beq_self_eq_true R
          have z6 : decide (alo ≤ blo) = true := decide_eq_true mo1
          have z7 : decide (ahi ≤ bhi) = true := decide_eq_true mo2
          have z8 : decide (0 ≤ wh) = true := decide_eq_true WP
          have hkb8 : kb < wc.heap.size := by have := B8.out.size; omega
          go_wp2_with fail
          refine (WH.out _ B8.out).mono ?_
          rintro e w9 ⟨rfl, hb9⟩
          have BF := Lib.hid (B8.out.trans (hb9.mono B8.out.size))
          go_wp2_with fail
          refine (law03_awake _).mono ?_
          rintro e w10 ⟨rfl, hb10⟩
          go_wp2_with fail
          go_ret
          have f1 := HB.out.trans (BB4.out.mono HB.out.size)
          have f2 := f1.trans (BF.out.mono f1.size)
          exact ⟨rfl, f2.trans (hb10.mono f2.size)⟩

end Go.Proofs.Ytkommjjpaklenaa
