/- Walks of the package fluid: pumping, whole. -/
import Derived.Test.YtkommjjpaklenaaFPump
import Derived.Test.YtkommjjpaklenaaFGood
import Derived.Test.YtkommjjpaklenaaHeld3
namespace Mpl
/-- what is put, slug by slug: what room is left, what stays, what goes -/
def putTo (V : Int) (l : List Slug) : Nat → Int × List Slug × List Slug
  | 0 => (V, [], [])
  | k + 1 => ((putTo V l k).1 - min (putTo V l k).1 (slg l k).Volume, (putTo V l k).2.1 ++ [⟨(slg l k).Weight, min (putTo V l k).1 (slg l k).Volume⟩], (putTo V l k).2.2 ++ [⟨(slg l k).Weight, (slg l k).Volume - min (putTo V l k).1 (slg l k).Volume⟩])
theorem putTo_spec (V : Int) (l : List Slug) (k : Nat) (hk : k ≤ l.length) : stays V l = (putTo V l k).2.1 ++ stays (putTo V l k).1 (l.drop k) ∧ goes V l = (putTo V l k).2.2 ++ goes (putTo V l k).1 (l.drop k) := by
  induction k with
  | zero => simp [putTo]
  | succ k ih =>
    obtain ⟨h1, h2⟩ := ih (by omega)
    have hd : l.drop k = slg l k :: l.drop (k + 1) := by
      rw [List.drop_eq_getElem_cons (by omega)]
      simp [slg, show k < l.length by omega]
    rw [hd, stays] at h1
    rw [hd, goes] at h2
    refine ⟨?_, ?_⟩
    · rw [h1]; simp [putTo]
    · rw [h2]; simp [putTo]
theorem putTo_all (V : Int) (l : List Slug) : (putTo V l l.length).2.1 = stays V l ∧ (putTo V l l.length).2.2 = goes V l := by
  obtain ⟨h1, h2⟩ := putTo_spec V l l.length (Nat.le_refl _)
  rw [h1, h2]
  simp [stays, goes]
theorem putTo_room (V : Int) (l : List Slug) (hV : 0 ≤ V) (h : ∀ i, i < l.length → 0 ≤ (slg l i).Volume) (k : Nat) (hk : k ≤ l.length) : 0 ≤ (putTo V l k).1 ∧ (putTo V l k).1 ≤ V ∧ (putTo V l k).2.1.length = k ∧ (putTo V l k).2.2.length = k := by
  induction k with
  | zero => simp [putTo]; omega
  | succ k ih =>
    have i := ih (by omega)
    have := h k (by omega)
    simp only [putTo, List.length_append, List.length_singleton]
    omega
end Mpl
namespace Go.Proofs.Ytkommjjpaklenaa
open Go.RowKit Go.Shelf Mpl
attribute [local go_sem] Oper.semAt_some

theorem enters_Pump1 : ∀ args w, (callFunc 85 args).run Try.prog w = .ok (.enter 85 args) w := enters_of Try.func85 (by kernel_rfl) rfl

theorem results_pump {fn : Func} {p q u : Tmp} (h : fn.results = #[.cell p 30, .cell q 30, .tmp u]) (tmps : Array Value) (w : World) (g g' : Nat) (a1 a2 : Option Addr) (n1 c1 n2 c2 : Nat) (c : Value)
    (hp : tmps.getD p undef = .pointer (some ⟨g, 0, none⟩)) (hq : tmps.getD q undef = .pointer (some ⟨g', 0, none⟩)) (hu : tmps.getD u undef = c) (h1 : w.cell? ⟨g, 0, none⟩ = some (.slice a1 n1 c1)) (h2 : w.cell? ⟨g', 0, none⟩ = some (.slice a2 n2 c2)) :
    (results fn tmps).run Try.prog w = .ok (.tuple #[.slice a1 n1 c1, .slice a2 n2 c2, c]) w := by
  simp only [results, h]
  rw [Array.getD_eq_getD_getElem?] at hp hq hu
  simp [Sem.run_bind, Result.andThen]
  rw [hp, hq, hu]
  simp [go_sem, h1, h2]

section
variable {P : Program} {ops : Array Oper} {Q : Exit → Act → World → Prop} {md : Region.Mode} {q : Nat} {S : Bool → World → Prop} {Z : Nat → Bool}
/-- one of two operations may come up -/
theorem AnyMid.two {i j : Nat} {o o' : Oper} {m : Nat} {b : Array Bool} {a : Act} {w : World} (hr : Region.ready md ops b = [i, j]) (ho : ops[i]? = some o) (hg : o.guard = none) (ho' : ops[j]? = some o') (hg' : o'.guard = none)
    (h : ∀ K : Act → World → Prop, (∀ a' w', (Z i = false → S ((b.setIfInBounds i true).getD q true) w') → AnyMid P md ops Q q S Z m (b.setIfInBounds i true) a' w' → K a' w') → o.wp P a w K Q)
    (h' : ∀ K : Act → World → Prop, (∀ a' w', (Z j = false → S ((b.setIfInBounds j true).getD q true) w') → AnyMid P md ops Q q S Z m (b.setIfInBounds j true) a' w' → K a' w') → o'.wp P a w K Q) : AnyMid P md ops Q q S Z (m + 1) b a w :=
  ⟨fun h0 => (by rw [hr] at h0; cases h0), fun l hl => by
    rw [hr] at hl
    simp only [List.mem_cons, List.not_mem_nil, or_false] at hl
    rcases hl with rfl | rfl
    · unfold wpOp
      simp only [ho]
      rw [if_pos (by simp [Region.wanted, hg])]
      exact .inl (h _ fun a' w' h1 h2 => ⟨h1, h2⟩)
    · unfold wpOp
      simp only [ho']
      rw [if_pos (by simp [Region.wanted, hg'])]
      exact .inl (h' _ fun a' w' h1 h2 => ⟨h1, h2⟩)⟩
end

/-- while slugs are put -/
def PuSt (w : World) (base gr gn gO : Nat) (V : Int) (S : List Slug) (k : Nat) (W : World) : Prop :=
  ∃ vn vo, Box W gr 2 #[.int .i64 (putTo V S k).1] ∧ Box W gn 30 #[vn] ∧ Box W gO 30 #[vo] ∧ Rows2 W base vn vo (putTo V S k).2.1 (putTo V S k).2.2 ∧ Below w.heap.size w W ∧ base ≤ W.heap.size
theorem PuSt.under {w W W' : World} {base gr gn gO : Nat} {V : Int} {S : List Slug} {k : Nat} (h : PuSt w base gr gn gO V S k W) (hb : Below W.heap.size W W') : PuSt w base gr gn gO V S k W' := by
  obtain ⟨vn, vo, c1, c2, c3, hr, hw, hs⟩ := h
  exact ⟨vn, vo, c1.under hb, c2.under hb, c3.under hb, hr.under hb, hw.trans (hb.mono hw.size), Nat.le_trans hs hb.size⟩
theorem pump_put {w : World} {base gr gn gO : Nat} {V : Int} {S : List Slug} {k : Nat} {W : World} (h : PuSt w base gr gn gO V S k W) (h1 : gn < base) (h2 : gO < base) (h3 : gr < base) (n1 : gn ≠ gO) (n2 : gn ≠ gr) (n3 : gO ≠ gr) (b1 : w.heap.size ≤ gn) (b2 : w.heap.size ≤ gO) (b3 : w.heap.size ≤ gr)
    (r0 : 0 ≤ (putTo V S k).1) (r1 : (putTo V S k).1 ≤ 1099511627776) (x0 : 0 ≤ (slg S k).Volume) (x1 : (slg S k).Volume ≤ 1099511627776) (m1 : (putTo V S k).2.1.length ≤ 1000) (m2 : (putTo V S k).2.2.length ≤ 1000) :
    Calls Try.prog 85 #[.agg #[.int .i64 (slg S k).Weight, .int .i64 (slg S k).Volume], .pointer (some ⟨gr, 0, none⟩), .pointer (some ⟨gn, 0, none⟩), .pointer (some ⟨gO, 0, none⟩)] W fun e W' => (∃ v, e = .returned v) ∧ PuSt w base gr gn gO V S (k + 1) W' := by
  obtain ⟨vn, vo, c1, c2, c3, hr, hb, hs⟩ := h
  refine (fluid_Pump1 (slg S k) gr _ vn vo _ _ base w.heap.size W gn gO c1 c2 c3 hr h1 h2 h3 n1 n2 n3 b1 b2 b3 hs r0 r1 x0 x1 m1 m2).mono ?_
  rintro e W' ⟨hv, vn', vo', d1, d2, d3, hr', hb', hs'⟩
  exact ⟨hv, vn', vo', d1, d2, d3, hr', hb.trans hb', hs'⟩

/-- all put, and plain -/
structure PuEnd (w : World) (base gn gO : Nat) (v1 v2 u1 u2 : Value) (l1 l2 : List Slug) (W : World) : Prop where
  n1 : Box W gn 30 #[u1]
  n2 : Box W gO 30 #[u2]
  o1 : W.ownsRow base 39 2 v1 l1.length (l1.flatMap slugC)
  o2 : W.ownsRow base 39 2 v2 l2.length (l2.flatMap slugC)
  b : Below w.heap.size w W
  ne : gn ≠ gO
  h1 : gn < base
  h2 : gO < base
  h3 : w.heap.size ≤ gn
  h4 : w.heap.size ≤ gO
theorem PuEnd.put1 {w W : World} {base gn gO : Nat} {v1 v2 u1 u2 : Value} {l1 l2 : List Slug} (h : PuEnd w base gn gO v1 v2 u1 u2 l1 l2 W) (v : Value) : PuEnd w base gn gO v1 v2 v u2 l1 l2 (W.setCell ⟨gn, 0, none⟩ v) :=
  ⟨by simpa using h.n1.set_ 0 v, h.n2.far (by simpa using h.ne.symm) _, own_far h.o1 (by simpa using h.h1) _, own_far h.o2 (by simpa using h.h1) _, h.b.setCell (p := ⟨gn, 0, none⟩) (by simpa using h.h3) _, h.ne, h.h1, h.h2, h.h3, h.h4⟩
theorem PuEnd.put2 {w W : World} {base gn gO : Nat} {v1 v2 u1 u2 : Value} {l1 l2 : List Slug} (h : PuEnd w base gn gO v1 v2 u1 u2 l1 l2 W) (v : Value) : PuEnd w base gn gO v1 v2 u1 v l1 l2 (W.setCell ⟨gO, 0, none⟩ v) :=
  ⟨h.n1.far (by simpa using h.ne) _, by simpa using h.n2.set_ 0 v, own_far h.o1 (by simpa using h.h2) _, own_far h.o2 (by simpa using h.h2) _, h.b.setCell (p := ⟨gO, 0, none⟩) (by simpa using h.h4) _, h.ne, h.h1, h.h2, h.h3, h.h4⟩
theorem PuEnd.drew {w W : World} {base gn gO : Nat} {v1 v2 u1 u2 : Value} {l1 l2 : List Slug} (h : PuEnd w base gn gO v1 v2 u1 u2 l1 l2 W) : PuEnd w base gn gO v1 v2 u1 u2 l1 l2 W.drew :=
  ⟨h.n1.drew, h.n2.drew, own_under h.o1 (Below.refl _ _).drew, own_under h.o2 (Below.refl _ _).drew, h.b.drew, h.ne, h.h1, h.h2, h.h3, h.h4⟩

/-- what is pumped, in memory -/
def PumpV (w : World) (P : List Slug × List Slug × Int) (e : Ending) (w' : World) : Prop :=
  (∃ A1 c1 A2 c2, e = .returned (.tuple #[.slice A1 P.1.length c1, .slice A2 P.2.1.length c2, .int .i64 P.2.2]) ∧ w'.ownsRow w.heap.size 39 2 (.slice A1 P.1.length c1) P.1.length (P.1.flatMap slugC) ∧ w'.ownsRow w.heap.size 39 2 (.slice A2 P.2.1.length c2) P.2.1.length (P.2.1.flatMap slugC)) ∧ Below w.heap.size w w'

set_option maxHeartbeats 8000000 in
set_option maxRecDepth 100000 in
theorem fluid_Pump (v0 : Value) (h : List Seg) (l : List Slug) (s : Slug) (A : Option Addr) (c : Nat) (w : World) (hv : HoleV w w.heap.size v0 h) (hin : SegsIn h) (hm : h.length ≤ maxLen) (hl : Slugs w w.heap.size A l) (hlin : SlugsIn l) (hlm : l.length ≤ maxLen) :
    Calls Try.prog 51 #[v0, .slice A l.length c, slugV s] w fun e w' => PumpV w (pump h l s) e w' := by
  have hvv := hv
  obtain ⟨AH, cH, rfl, hS⟩ := hv
  obtain ⟨w0, hw0⟩ : ∃ w0, (((w.alloc (.cells #[.slice AH h.length cH] 25)).alloc (.cells #[.int .i64 s.Weight, .int .i64 s.Volume] 39)).alloc (.cells #[.slice none 0 0] 30)).alloc (.cells #[.slice none 0 0] 30) = w0 := ⟨_, rfl⟩
  have hB0 : Below w.heap.size w w0 := by rw [← hw0]; exact (by repeat (first | exact Below.refl _ _ | assumption | refine Below.setCell ?_ (by first | (simp; done) | (simp; omega)) _ | refine belowDrewN ?_ _ | refine Below.drew ?_ | refine Below.alloc ?_ (by first | (simp; done) | (simp; omega)) _))
  have B0 := Lib.hid (show Box w0 w.heap.size 25 #[.slice AH h.length cH] by rw [← hw0]; exact (((Box.new w _ _ rfl).alloc _).alloc _).alloc _)
  have B1 := Lib.hid (show Box w0 (w.heap.size + 1) 39 #[.int .i64 s.Weight, .int .i64 s.Volume] by rw [← hw0]; exact ((Box.new _ _ _ (by simp)).alloc _).alloc _)
  have B2 := Lib.hid (show Box w0 (w.heap.size + 1 + 1) 30 #[.slice none 0 0] by rw [← hw0]; exact (Box.new _ _ _ (by simp)).alloc _)
  have B3 := Lib.hid (show Box w0 (w.heap.size + 1 + 1 + 1) 30 #[.slice none 0 0] by rw [← hw0]; exact Box.new _ _ _ (by simp))
  have HC := Lib.hid (fluid_CheckColumn _ h l A c w0 (hvv.below hB0) hin hm (hl.below hB0) hlin hlm)
  have HW0 := Lib.hid hw0
  have HB0 := Lib.hid hB0
  have hdef : Hid (pump h l s = if checkColumn h l ≠ 0 then ([], [], checkColumn h l) else if within s.Weight 0 40000 && within s.Volume 1 (sizeUp h h.length) then (if 24 < (plainOf (stays (sizeUp h h.length) (s :: l))).length then ([], [], 8) else (plainOf (stays (sizeUp h h.length) (s :: l)), plainOf (goes (sizeUp h h.length) (s :: l)), 0)) else ([], [], 2)) := rfl
  have q0 := hole_box B0.out
  clear hw0 hB0
  by_cases h0 : checkColumn h l = 0
  case neg =>
    have hp : Hid (pump h l s = ([], [], checkColumn h l)) := by unfold Hid; rw [hdef.out, if_pos h0]
    have hz : (checkColumn h l != 0) = true := by simpa using h0
    clear hdef h0 hS hvv
    rw [hp.out]
    generalize checkColumn h l = ch at *
    unfold slugV
    generalize h.length = nh at *
    generalize l.length = n at *
    go_enter Try.func51, Try.ntmps51
    go_wp2_with fail
    rw [HW0.out]
    go_wp2_with fail
    refine HC.out.mono ?_
    rintro e w1 ⟨rfl, hb1⟩
    have C2 := Lib.hid (B2.out.under hb1)
    have C3 := Lib.hid (B3.out.under hb1)
    have HB1 := Lib.hid (HB0.out.trans (hb1.mono HB0.out.size))
    have x2 : w1.cell? ⟨w.heap.size + 1 + 1, 0, none⟩ = some (.slice none 0 0) := C2.out.cell 0
    have x3 : w1.cell? ⟨w.heap.size + 1 + 1 + 1, 0, none⟩ = some (.slice none 0 0) := C3.out.cell 0
    have f2 := C2.out.frozen 0
    have f3 := C3.out.frozen 0
    clear hb1
    go_wp2_with fail
    refine bodyPost_ret (results_pump rfl _ _ (w.heap.size + 1 + 1) (w.heap.size + 1 + 1 + 1) none none 0 0 0 0 (.int .i64 ch) rfl rfl rfl ?_ ?_) rfl ?_
    · exact ((((C2.out).set_ 0 (.slice none 0 0)).far (by simp) _).cell 0).trans (by simp)
    · exact (((((C3.out).far (by simp) (.slice none 0 0))).set_ 0 (.slice none 0 0)).cell 0).trans (by simp)
    · (try rw [hp.out])
      exact ⟨⟨none, 0, none, 0, rfl, World.ownsRow_nil _ _ _ _, World.ownsRow_nil _ _ _ _⟩, ((HB1.out).setCell (p := ⟨w.heap.size + 1 + 1, 0, none⟩) (by simp; omega) _).setCell (p := ⟨w.heap.size + 1 + 1 + 1, 0, none⟩) (by simp; omega) _⟩
  have gc := (checkColumn_iff h l).1 h0
  have GC := Lib.hid gc
  have hhl := hl
  obtain ⟨b, off, rfl, hbl, hcl⟩ := hl gc.pos
  have HCL := Lib.hid hcl
  rw [h0] at HC
  have HVO := Lib.hid (fun W (hW : Below w0.heap.size w0 W) => fluid_volume _ h W ((hvv.below HB0.out).below hW) gc.hole)
  have hV := (gc.hole.ups h.length (Nat.le_refl _)).2.2.2.2
  have hV0 : 0 ≤ sizeUp h h.length := by omega
  have hV2 := hV.2
  have hd2 : Hid (pump h l s = if within s.Weight 0 40000 && within s.Volume 1 (sizeUp h h.length) then (if 24 < (plainOf (stays (sizeUp h h.length) (s :: l))).length then ([], [], 8) else (plainOf (stays (sizeUp h h.length) (s :: l)), plainOf (goes (sizeUp h h.length) (s :: l)), 0)) else ([], [], 2)) := by unfold Hid; rw [hdef.out, if_neg (by simp [h0])]
  have hHL := Lib.hid (hl.below HB0.out)
  have hfew := gc.few
  have hpos := gc.pos
  clear hdef h0 hS hvv hV
  generalize hVV : sizeUp h h.length = V at *
  clear hVV
  have WI := Lib.hid (fun a b c W => fluid_within a b c W)
  generalize pump h l s = res at *
  obtain ⟨M, hM⟩ : ∃ M, M = w.heap.size + 1 + 1 + 1 := ⟨_, rfl⟩
  unfold slugV
  have HSL := Lib.hid hhl
  clear hhl hcl
  generalize h.length = nh at *
  generalize hn : l.length = n at *
  have HN := Lib.hid hn
  clear hn
  go_enter Try.func51, Try.ntmps51
  go_wp2_with fail
  rw [HW0.out]
  go_wp2_with fail
  refine HC.out.mono ?_
  rintro e w1 ⟨rfl, hb1⟩
  have D0 := Lib.hid (B0.out.under hb1)
  have HVW := Lib.hid (HVO.out w1 hb1)
  have D1 := Lib.hid (B1.out.under hb1)
  have D2 := Lib.hid (B2.out.under hb1)
  have D3 := Lib.hid (B3.out.under hb1)
  have HB1 := Lib.hid (HB0.out.trans (hb1.mono HB0.out.size))
  clear hb1 q0 HC HVO B0 B1 B2 B3
  have q0 := hole_box D0.out
  go_wp2_with fail
  refine HVW.out.mono ?_
  rintro e w2 ⟨rfl, hb2⟩
  obtain ⟨w3, hw3⟩ : ∃ w3, w2.alloc (.cells #[.int .i64 V] 2) = w3 := ⟨_, rfl⟩
  have E1 := Lib.hid (show Box w3 (w.heap.size + 1) 39 #[.int .i64 s.Weight, .int .i64 s.Volume] by rw [← hw3]; exact (D1.out.under hb2).alloc _)
  have E2 := Lib.hid (show Box w3 (w.heap.size + 1 + 1) 30 #[.slice none 0 0] by rw [← hw3]; exact (D2.out.under hb2).alloc _)
  have E3 := Lib.hid (show Box w3 (w.heap.size + 1 + 1 + 1) 30 #[.slice none 0 0] by rw [← hw3]; exact (D3.out.under hb2).alloc _)
  have ER := Lib.hid (show Box w3 w2.heap.size 2 #[.int .i64 V] by rw [← hw3]; exact Box.new _ _ _ rfl)
  have hB2 := HB1.out.trans (hb2.mono HB1.out.size)
  have HB3 := Lib.hid (show Below w.heap.size w w3 by rw [← hw3]; exact hB2.alloc hB2.size _)
  have hlt3 : w.heap.size + 1 + 1 + 1 < w2.heap.size := (D3.out.under hb2).lt
  have hs3 : w3.heap.size = w2.heap.size + 1 := by rw [← hw3]; simp
  have HW3 := Lib.hid hw3
  have HS3 := Lib.hid hs3
  clear hw3 hb2 hs3 hB2 D0 D1 D2 D3 HB1 HW0 HB0 HVW q0
  have y0 : w3.cell? ⟨w.heap.size + 1, 0, none⟩ = some (.int .i64 s.Weight) := E1.out.cell 0
  have y1 : w3.cell? ⟨w.heap.size + 1, 1, none⟩ = some (.int .i64 s.Volume) := E1.out.cell 1
  have y2 : w3.cell? ⟨w2.heap.size, 0, none⟩ = some (.int .i64 V) := ER.out.cell 0
  have y3 : w3.cell? ⟨w.heap.size + 1 + 1, 0, none⟩ = some (.slice none 0 0) := E2.out.cell 0
  have y4 : w3.cell? ⟨w.heap.size + 1 + 1 + 1, 0, none⟩ = some (.slice none 0 0) := E3.out.cell 0
  have f3 := E2.out.frozen 0
  have f4 := E3.out.frozen 0
  go_upto_region 5 with fail
  rw [HW3.out]
  cases hw1 : within s.Weight 0 40000
  · have hp : Hid (res = ([], [], 2)) := by unfold Hid; rw [hd2.out, hw1]; rfl
    go_wp2_with (go_at_call 62; refine (fluid_within _ _ _ _).mono ?_; rintro e w' ⟨rfl, rfl⟩; rw [hw1])
    refine bodyPost_ret (results_pump rfl _ _ (w.heap.size + 1 + 1) (w.heap.size + 1 + 1 + 1) none none 0 0 0 0 (.int .i64 2) rfl rfl rfl ?_ ?_) rfl ?_
    · exact ((((E2.out).set_ 0 (.slice none 0 0)).far (by simp) _).cell 0).trans (by simp)
    · exact (((((E3.out).far (by simp) (.slice none 0 0))).set_ 0 (.slice none 0 0)).cell 0).trans (by simp)
    · (try rw [hp.out])
      exact ⟨⟨none, 0, none, 0, rfl, World.ownsRow_nil _ _ _ _, World.ownsRow_nil _ _ _ _⟩, ((HB3.out).setCell (p := ⟨w.heap.size + 1 + 1, 0, none⟩) (by simp; omega) _).setCell (p := ⟨w.heap.size + 1 + 1 + 1, 0, none⟩) (by simp; omega) _⟩
  cases hw2 : within s.Volume 1 V
  · have hp : Hid (res = ([], [], 2)) := by unfold Hid; rw [hd2.out, hw1, hw2]; rfl
    go_wp2_with (go_at_call 62; refine (fluid_within _ _ _ _).mono ?_; rintro e w' ⟨rfl, rfl⟩; first | rw [hw1] | rw [hw2])
    refine bodyPost_ret (results_pump rfl _ _ (w.heap.size + 1 + 1) (w.heap.size + 1 + 1 + 1) none none 0 0 0 0 (.int .i64 2) rfl rfl rfl ?_ ?_) rfl ?_
    · exact ((((E2.out).set_ 0 (.slice none 0 0)).far (by simp) _).cell 0).trans (by simp)
    · exact (((((E3.out).far (by simp) (.slice none 0 0))).set_ 0 (.slice none 0 0)).cell 0).trans (by simp)
    · (try rw [hp.out])
      exact ⟨⟨none, 0, none, 0, rfl, World.ownsRow_nil _ _ _ _, World.ownsRow_nil _ _ _ _⟩, ((HB3.out).setCell (p := ⟨w.heap.size + 1 + 1, 0, none⟩) (by simp; omega) _).setCell (p := ⟨w.heap.size + 1 + 1 + 1, 0, none⟩) (by simp; omega) _⟩
  have hsv : 1 ≤ s.Volume ∧ s.Volume ≤ V := by simpa [within] using hw2
  have hd3 : Hid (res = if 24 < (plainOf (stays V (s :: l))).length then ([], [], 8) else (plainOf (stays V (s :: l)), plainOf (goes V (s :: l)), 0)) := by unfold Hid; rw [hd2.out, hw1, hw2]; rfl
  clear hd2
  have hvols : ∀ i, i < (s :: l).length → 1 ≤ (slg (s :: l) i).Volume ∧ (slg (s :: l) i).Volume ≤ 5242880000 := fun i hi => by
    cases i with
    | zero => rw [slg_zero]; omega
    | succ i =>
      rw [slg_succ]
      have hi' : i < l.length := by simpa using hi
      have h1 := GC.out.v1 i hi'
      have h3 := heldUp_step l i
      have h4 := heldUp_mono GC.out (k := i + 1) hi'
      have h5 := heldUp_mono GC.out (k := i) (by omega)
      have h6 := (GC.out.hole.ups h.length (Nat.le_refl _)).2.2.2.2.2
      omega
  have HPT := Lib.hid (fun k (hk : k ≤ (s :: l).length) => putTo_room V (s :: l) hV0 (fun i hi => by have := hvols i hi; omega) k hk)
  have HVL := Lib.hid hvols
  have HALL := Lib.hid (putTo_all V (s :: l))
  clear hvols
  obtain ⟨S, hS⟩ : ∃ S, s :: l = S := ⟨_, rfl⟩
  have hS0 : slg S 0 = s := by rw [← hS, slg_zero]
  have hSn : S.length = n + 1 := by rw [← hS, List.length_cons, HN.out]
  have hSs : Hid (∀ k, slg S (k + 1) = slg l k) := fun k => by rw [← hS, slg_succ]
  rw [hS] at HPT HVL HALL hd3
  rw [hSn] at HPT HVL HALL
  clear hS
  have HPP : Hid (∀ k W, k ≤ n → PuSt w w3.heap.size w2.heap.size (w.heap.size + 1 + 1) (w.heap.size + 1 + 1 + 1) V S k W → Calls Try.prog 85 #[.agg #[.int .i64 (slg S k).Weight, .int .i64 (slg S k).Volume], .pointer (some ⟨w2.heap.size, 0, none⟩), .pointer (some ⟨w.heap.size + 1 + 1, 0, none⟩), .pointer (some ⟨w.heap.size + 1 + 1 + 1, 0, none⟩)] W fun e W' => (∃ v, e = .returned v) ∧ PuSt w w3.heap.size w2.heap.size (w.heap.size + 1 + 1) (w.heap.size + 1 + 1 + 1) V S (k + 1) W') := fun k W hk h => by
    have p := HPT.out k (by omega)
    have v := HVL.out k (by omega)
    have hs := HS3.out
    exact pump_put h (by omega) (by omega) (by omega) (by omega) (by omega) (by omega) (by omega) (by omega) (by omega) p.1 (by omega) (by omega) (by omega) (by omega) (by omega)
  have PS0 : Hid (PuSt w w3.heap.size w2.heap.size (w.heap.size + 1 + 1) (w.heap.size + 1 + 1 + 1) V S 0 w3) := ⟨.slice none 0 0, .slice none 0 0, ER.out, E2.out, E3.out, ⟨World.ownsRow_nil _ _ _ _, World.ownsRow_nil _ _ _ _, .inl rfl⟩, HB3.out, Nat.le_refl _⟩
  have HC0 := Lib.hid (HPP.out 0 w3 (Nat.zero_le _) PS0.out)
  rw [hS0] at HC0
  have HSL1 : Hid ((putTo V S (n + 1)).2.1.length = n + 1 ∧ (putTo V S (n + 1)).2.2.length = n + 1) := (HPT.out (n + 1) (Nat.le_refl _)).2.2
  rw [HALL.out.1, HALL.out.2] at HSL1
  have HBASE : Hid (w.heap.size + 1 + 1 + 1 < w3.heap.size) := by have := HS3.out; unfold Hid; omega
  clear hSn hS0
  go_wp2_with (first | (go_at_call 62; refine (fluid_within _ _ _ _).mono ?_; rintro e w' ⟨rfl, rfl⟩; first | rw [hw1] | rw [hw2]))
  refine HC0.out.mono ?_
  rintro e w4 ⟨⟨v1, rfl⟩, PS1⟩
  have PK1 := Lib.hid PS1
  clear PS1 y0 y1 y2 y3 y4 f3 f4 E1 E2 E3 ER HW3 PS0 HC0 HPT HVL hw1 hw2 WI
  go_wp2_with fail
  go_loopw [38] (fun s38 wr => ∃ k : Nat, k ≤ n ∧ s38 = .int .i64 k ∧ Hid (PuSt w w3.heap.size w2.heap.size (w.heap.size + 1 + 1) (w.heap.size + 1 + 1 + 1) V S (k + 1) wr)) (fun s38 _ => n - (intOf s38).toNat)
  case atStart => exact ⟨0, Nat.zero_le _, rfl, PK1.out⟩
  case round =>
    obtain ⟨k, hk, rfl, PK⟩ := hrel
    by_cases hlt : k < n
    · have BW : Below w.heap.size w wr := by obtain ⟨_, _, _, _, _, _, h, _⟩ := PK.out; exact h
      obtain ⟨c0, c1⟩ := HCL.out k hlt
      have d0 := oldCell BW hbl c0
      have d1 := oldCell BW hbl c1
      have hbw : b < wr.heap.size := by have := BW.size; omega
      have t0 : decide (k < n) = true := decide_eq_true hlt
      have b1 : (k : Int) < (n : Int) := by omega
      have b2 : (0 : Int) ≤ (k : Int) := by omega
      have HCK := Lib.hid (fun W (hW : Below wr.heap.size wr W) => HPP.out (k + 1) W (by omega) (PK.out.under hW))
      rw [hSs.out] at HCK
      clear c0 c1 BW
      generalize slg l k = s at *
      go_wp2_with fail
      refine (HCK.out _ ((Below.refl _ _).alloc (Nat.le_refl _) _)).mono ?_
      rintro e w5 ⟨⟨v5, rfl⟩, PS5⟩
      have PK5 := Lib.hid PS5
      clear PS5
      go_wp2_with fail
      go_roundw
      case rel => exact ⟨k + 1, hlt, by go_num, PK5.out⟩
      case measure => simp [intOf]; omega
    · obtain rfl : k = n := by omega
      have t0 : decide (k < k) = false := decide_eq_false hlt
      obtain ⟨vn, vo, c1, c2, c3, hr, hb, hs⟩ := PK.out
      rw [HALL.out.1, HALL.out.2] at hr
      obtain ⟨A1, a1, rfl, _, _⟩ := own_form hr.o1
      obtain ⟨A2, a2, rfl, _, _⟩ := own_form hr.o2
      generalize stays V S = st at *
      generalize goes V S = gs at *
      have OO := Lib.hid hr
      have HP1 := Lib.hid (fun W (hW : Below wr.heap.size wr W) => fluid_Plain st A1 a1 W (own_slugs (own_under OO.out.o1 hW)) (by have := HSL1.out.1; omega))
      have HP2 := Lib.hid (fun W (hW : Below wr.heap.size wr W) => fluid_Plain gs A2 a2 W (own_slugs (own_under OO.out.o2 hW)) (by have := HSL1.out.2; omega))
      have C2 := Lib.hid c2
      have C3 := Lib.hid c3
      have HBW := Lib.hid hb
      have HSW := Lib.hid hs
      clear hr c1 c2 c3 hb hs PK HPP PK1 HSL1 HALL
      go_upto_region 14 with fail
      have HD := Lib.hid (Below.refl wr.heap.size wr).drew
      go_cut [] (fun wx => ∃ X1 x1 X2 x2, Hid (PuEnd w w3.heap.size (w.heap.size + 1 + 1) (w.heap.size + 1 + 1 + 1) (.slice X1 (plainOf st).length x1) (.slice X2 (plainOf gs).length x2) (.slice X1 (plainOf st).length x1) (.slice X2 (plainOf gs).length x2) (plainOf st) (plainOf gs) wx))
      case first =>
        have SS : (fun w' : World => w'.cell? ⟨w.heap.size + 1 + 1, 0, none⟩ = some (.slice A1 st.length a1) ∧ w'.cell? ⟨w.heap.size + 1 + 1 + 1, 0, none⟩ = some (.slice A2 gs.length a2)) wr.drew := ⟨C2.out.cell 0, C3.out.cell 0⟩
        refine AnyMid.begin (q := 4) (S := (fun (f : Bool) (w' : World) => f = false → w'.cell? ⟨w.heap.size + 1 + 1, 0, none⟩ = some (.slice A1 st.length a1) ∧ w'.cell? ⟨w.heap.size + 1 + 1 + 1, 0, none⟩ = some (.slice A2 gs.length a2))) (Z := fun i => i == 5) mixed ?_
        refine AnyMid.take (fun w' : World => w'.cell? ⟨w.heap.size + 1 + 1, 0, none⟩ = some (.slice A1 st.length a1) ∧ w'.cell? ⟨w.heap.size + 1 + 1 + 1, 0, none⟩ = some (.slice A2 gs.length a2)) (i := 0) (v := .slice A1 st.length a1) [5] 6 (by simp) (fun _ h => h rfl) (.inl (by decide +kernel)) (fun _ => SS) rfl (by decide +kernel) (fun _ _ _ h => h) (Or.inl ⟨by simp [Region.wanted], fun w' hw' => by (obtain ⟨s0, s1⟩ := hw'; go_simp)⟩) ?_
        refine AnyMid.take (fun w' : World => w'.cell? ⟨w.heap.size + 1 + 1, 0, none⟩ = some (.slice A1 st.length a1) ∧ w'.cell? ⟨w.heap.size + 1 + 1 + 1, 0, none⟩ = some (.slice A2 gs.length a2)) (i := 2) (v := .slice A2 gs.length a2) [5] 6 (by simp) (fun _ h => h rfl) (.inl (by decide +kernel)) (fun _ => SS) rfl (by decide +kernel) (fun _ _ _ h => h) (Or.inl ⟨by simp [Region.wanted], fun w' hw' => by (obtain ⟨s0, s1⟩ := hw'; go_simp)⟩) ?_
        refine AnyMid.only (i := 1) (by decide +kernel) rfl rfl (fun K hK => ?_)
        go_wp2_with fail
        refine (HP1.out _ HD.out).mono ?_
        rintro e W1 ⟨⟨X1, x1, rfl, ho1⟩, hb1⟩
        refine hK _ _ (fun _ _ => ⟨(C2.out.drew.under hb1).cell 0, (C3.out.drew.under hb1).cell 0⟩) ?_
        clear hK K
        refine AnyMid.only (i := 3) (by decide +kernel) rfl rfl (fun K hK => ?_)
        go_wp2_with fail
        refine (HP2.out _ (HD.out.trans (hb1.mono HD.out.size))).mono ?_
        rintro e W2 ⟨⟨X2, x2, rfl, ho2⟩, hb2⟩
        refine hK _ _ (fun _ _ => ⟨((C2.out.drew.under hb1).under hb2).cell 0, ((C3.out.drew.under hb1).under hb2).cell 0⟩) ?_
        clear hK K
        have hd1 := HBW.out.trans (HD.out.mono HBW.out.size)
        have hd2 := hd1.trans (hb1.mono hd1.size)
        have PE := Lib.hid (show PuEnd w w3.heap.size (w.heap.size + 1 + 1) (w.heap.size + 1 + 1 + 1) (.slice X1 (plainOf st).length x1) (.slice X2 (plainOf gs).length x2) (.slice A1 st.length a1) (.slice A2 gs.length a2) (plainOf st) (plainOf gs) W2 from ⟨(C2.out.drew.under hb1).under hb2, (C3.out.drew.under hb1).under hb2, own_le (own_under ho1 hb2) (Nat.le_trans HSW.out HD.out.size), own_le ho2 (Nat.le_trans HSW.out (Nat.le_trans HD.out.size hb1.size)), hd2.trans (hb2.mono hd2.size), by omega, by have := HBASE.out; omega, HBASE.out, by omega, by omega⟩)
        clear hd1 hd2 hb1 hb2 ho1 ho2
        have j0 := PE.out.n1.frozen 0
        have j1 := PE.out.n2.frozen 0
        have j2 := PE.out.n1.cell 0
        have j3 := PE.out.n2.cell 0
        simp only [List.getElem?_toArray, List.getElem?_cons_zero] at j2 j3
        refine AnyMid.only (i := 4) (by decide +kernel) rfl rfl (fun K hK => ?_)
        go_wp2_with fail
        refine hK _ _ (fun _ h => (by cases h)) ?_
        clear hK K
        refine AnyMid.only (i := 5) (by decide +kernel) rfl rfl (fun K hK => ?_)
        go_wp2_with fail
        refine hK _ _ (fun h => (by cases h)) ?_
        clear hK K
        refine AnyMid.done (by decide +kernel) ?_
        go_wp2_with fail
        go_meet
        exact ⟨_, _, _, _, (PE.out.put1 _).put2 _⟩
      case rest =>
        obtain ⟨X1, x1, X2, x2, PE⟩ := hcut
        have j0 := PE.out.n1.frozen 0
        have j1 := PE.out.n2.frozen 0
        have j2 := PE.out.n1.cell 0
        have j3 := PE.out.n2.cell 0
        simp only [List.getElem?_toArray, List.getElem?_cons_zero] at j2 j3
        clear HP1 HP2 OO C2 C3 HBW HSW HD
        generalize (plainOf st) = p1 at *
        generalize (plainOf gs) = p2 at *
        by_cases hf : 24 < p1.length
        · have hp : Hid (res = ([], [], 8)) := by unfold Hid; rw [hd3.out, if_pos hf]
          have t1 : decide ((24 : Int) < (p1.length : Int)) = true := decide_eq_true (by omega)
          have t2 : decide (24 < p1.length) = true := decide_eq_true hf
          clear hd3 hf
          go_wp2_with fail
          refine bodyPost_ret (results_pump rfl _ _ (w.heap.size + 1 + 1) (w.heap.size + 1 + 1 + 1) none none 0 0 0 0 (.int .i64 8) rfl rfl rfl ?_ ?_) rfl ?_
          · exact (((PE.out.put1 _).put2 _).n1.cell 0).trans (by simp)
          · exact (((PE.out.put1 _).put2 _).n2.cell 0).trans (by simp)
          · (try rw [hp.out])
            exact ⟨⟨none, 0, none, 0, rfl, World.ownsRow_nil _ _ _ _, World.ownsRow_nil _ _ _ _⟩, ((PE.out.put1 _).put2 _).b⟩
        · have hp : Hid (res = (p1, p2, 0)) := by unfold Hid; rw [hd3.out, if_neg hf]
          have t1 : decide ((24 : Int) < (p1.length : Int)) = false := decide_eq_false (by omega)
          have t2 : decide (24 < p1.length) = false := decide_eq_false hf
          clear hd3 hf
          go_upto_region 17 with fail
          go_region
          all_goals
            go_wp2_with fail
            refine bodyPost_ret (results_pump rfl _ _ (w.heap.size + 1 + 1) (w.heap.size + 1 + 1 + 1) X1 X2 p1.length x1 p2.length x2 (.int .i64 0) rfl rfl rfl ?_ ?_) rfl ?_
            · exact (((PE.out.put1 _).put2 _).drew.n1.cell 0).trans (by simp)
            · exact (((PE.out.put1 _).put2 _).drew.n2.cell 0).trans (by simp)
            · (try rw [hp.out])
              have hbs := HBASE.out
              exact ⟨⟨X1, x1, X2, x2, rfl, own_le ((PE.out.put1 _).put2 _).drew.o1 (by omega), own_le ((PE.out.put1 _).put2 _).drew.o2 (by omega)⟩, ((PE.out.put1 _).put2 _).drew.b⟩

end Go.Proofs.Ytkommjjpaklenaa
