/- Walks of the package fluid: does mud flow. -/
import Derived.Test.YtgcfplkfclapiaaFProduct
import Derived.Test.YtgcfplkfclapiaaFFlow
import Derived.Deep.DeepCutAuto
import Derived.Test.YtgcfplkfclapiaaInv
namespace Go.Proofs.Ytgcfplkfclapiaa
open Go.RowKit Go.Shelf Go.Deep Mpl

theorem at_act {P : Program} {md : Region.Mode} {ops : Array Oper} {Q : Exit → Act → World → Prop} {S : World → Prop} {z m : Nat} {b : Array Bool} {a : Act} {W : World} (H : ∀ a', a = a' → AnyBut P md ops Q S z m b a' W) : AnyBut P md ops Q S z m b a W := H a rfl
def longC (l : List Int) : Array Value := (l.map (Value.int .i64)).toArray
theorem ints_box {W : World} {g t : Nat} {l : List Int} (b : Box W g t (longC l)) : Ints W W.heap.size (some ⟨g, 0, none⟩) l := fun _ =>
  ⟨g, 0, rfl, b.lt, fun i hi => by rw [b.cell]; simp [longC, pick, hi]⟩
theorem seg_box1 {w : World} {g : Nat} {a b c d : Value} (h : Box w g 29 #[a, b, c, d]) : w.cell? ⟨g, 2, none⟩ = some c ∧ w.cell? ⟨g, 3, none⟩ = some d := ⟨h.cell 2, h.cell 3⟩
theorem mud_box {w : World} {g : Nat} {a b : Value} (h : Box w g 47 #[a, b]) : w.cell? ⟨g, 0, none⟩ = some a ∧ w.cell? ⟨g, 1, none⟩ = some b := ⟨h.cell 0, h.cell 1⟩
theorem prod_call (l : List Int) (n : Nat) (hn : n = l.length) (A : Nat) (hA : prodN l = A) (hin : ∀ i, i < l.length → 0 ≤ pick l i ∧ pick l i ≤ 4611686018427387904) (hm : n ≤ 100) (hp : A < 340282366920938463463374607431768211456) (W : World) (g : Nat) (b : Box W g 2 (longC l)) :
    Calls Try.prog 99 #[.slice (some ⟨g, 0, none⟩) n n] W fun e W' => e = .returned (wideV A) ∧ Below W.heap.size W W' := by
  subst hn hA
  exact fluid_product l _ _ W (ints_box b) hin hm hp
theorem store_wide {w W : World} {g : Nat} {ts tm : Nat} {cs cm : Array Value} {u v : Value} (hlt : w.heap.size + 1 < g) (x : Box W g 147 #[u, v]) (s : Box W w.heap.size ts cs) (m : Box W (w.heap.size + 1) tm cm) (l : Below w.heap.size w W) (H L : Int) :
    Box ((W.setCell ⟨g, 0, none⟩ (.int .u64 H)).setCell ⟨g, 1, none⟩ (.int .u64 L)) g 147 #[.int .u64 H, .int .u64 L] ∧ Box ((W.setCell ⟨g, 0, none⟩ (.int .u64 H)).setCell ⟨g, 1, none⟩ (.int .u64 L)) w.heap.size ts cs ∧ Box ((W.setCell ⟨g, 0, none⟩ (.int .u64 H)).setCell ⟨g, 1, none⟩ (.int .u64 L)) (w.heap.size + 1) tm cm ∧ Below w.heap.size w ((W.setCell ⟨g, 0, none⟩ (.int .u64 H)).setCell ⟨g, 1, none⟩ (.int .u64 L)) :=
  ⟨by simpa using (x.set_ 0 (.int .u64 H)).set_ 1 (.int .u64 L), (s.far (by simp; omega) _).far (by simp; omega) _, (m.far (by simp; omega) _).far (by simp; omega) _, (l.setCell (p := ⟨g, 0, none⟩) (by simp; omega) _).setCell (p := ⟨g, 1, none⟩) (by simp; omega) _⟩



def key7 (i : Nat) (d1 d2 d3 d4 d5 d6 : Bool) : Bool := (i == 8 && !d1) || (i == 9 && d1 && !d2) || (i == 15 && !d3) || (i == 16 && d3 && !d4) || (i == 17 && d2 && d4 && !d5) || (i == 18 && d5 && !d6) || (i == 19 && d6)
def key6 (i : Nat) (d1 d2 d3 d4 d5 d6 : Bool) : Bool := (i == 7 && !d1) || (i == 8 && d1 && !d2) || (i == 16 && !d3) || (i == 17 && d3 && !d4) || (i == 18 && d2 && d4 && !d5) || (i == 19 && !d6) || (i == 20 && d5 && d6 && d2 && d4)
/-- what the seven heavy operations of a sum of two products have left -/
structure Six (w W : World) (sc mc l1 l2 : Array Value) (n1 n2 : Nat) (r1 r2 r3 : Value) (d1 d2 d3 d4 d5 : Bool) (v1 v2 v3 v4 v5 : Value) : Prop where
  s : Box W w.heap.size 29 sc
  m : Box W (w.heap.size + 1) 47 mc
  lo : Below w.heap.size w W
  f1 : d1 = true → d2 = false → ∃ p, v1 = .slice (some ⟨p, 0, none⟩) n1 n1 ∧ Box W p 2 l1
  f2 : d2 = true → v2 = r1
  f3 : d3 = true → d4 = false → ∃ p, v3 = .slice (some ⟨p, 0, none⟩) n2 n2 ∧ Box W p 2 l2
  f4 : d4 = true → v4 = r2
  f5 : d5 = true → v5 = r3
section
variable {w W W' : World} {sc mc l1 l2 : Array Value} {n1 n2 : Nat} {r1 r2 r3 : Value} {d1 d2 d3 d4 d5 : Bool} {v1 v2 v3 v4 v5 : Value}
theorem Six.under (h : Six w W sc mc l1 l2 n1 n2 r1 r2 r3 d1 d2 d3 d4 d5 v1 v2 v3 v4 v5) (hb : Below W.heap.size W W') : Six w W' sc mc l1 l2 n1 n2 r1 r2 r3 d1 d2 d3 d4 d5 v1 v2 v3 v4 v5 :=
  ⟨h.s.under hb, h.m.under hb, h.lo.trans (hb.mono h.lo.size), fun a b => by obtain ⟨p, x, y⟩ := h.f1 a b; exact ⟨p, x, y.under hb⟩, h.f2, fun a b => by obtain ⟨p, x, y⟩ := h.f3 a b; exact ⟨p, x, y.under hb⟩, h.f4, h.f5⟩
theorem Six.bs1 (h : Six w W sc mc l1 l2 n1 n2 r1 r2 r3 d1 d2 d3 d4 d5 v1 v2 v3 v4 v5) : Six w (W.alloc (.cells l1 2)) sc mc l1 l2 n1 n2 r1 r2 r3 true d2 d3 d4 d5 (.slice (some ⟨W.heap.size, 0, none⟩) n1 n1) v2 v3 v4 v5 := by
  have k := h.under ((Below.refl _ W).alloc (Nat.le_refl _) (.cells l1 2))
  exact ⟨k.s, k.m, k.lo, fun _ _ => ⟨_, rfl, Box.new _ _ _ rfl⟩, k.f2, k.f3, k.f4, k.f5⟩
theorem Six.bs2 (h : Six w W sc mc l1 l2 n1 n2 r1 r2 r3 d1 d2 d3 d4 d5 v1 v2 v3 v4 v5) : Six w (W.alloc (.cells l2 2)) sc mc l1 l2 n1 n2 r1 r2 r3 d1 d2 true d4 d5 v1 v2 (.slice (some ⟨W.heap.size, 0, none⟩) n2 n2) v4 v5 := by
  have k := h.under ((Below.refl _ W).alloc (Nat.le_refl _) (.cells l2 2))
  exact ⟨k.s, k.m, k.lo, k.f1, k.f2, fun _ _ => ⟨_, rfl, Box.new _ _ _ rfl⟩, k.f4, k.f5⟩
theorem Six.c1 (h : Six w W sc mc l1 l2 n1 n2 r1 r2 r3 d1 d2 d3 d4 d5 v1 v2 v3 v4 v5) : Six w W sc mc l1 l2 n1 n2 r1 r2 r3 d1 true d3 d4 d5 v1 r1 v3 v4 v5 := ⟨h.s, h.m, h.lo, fun _ e => (by cases e), fun _ => rfl, h.f3, h.f4, h.f5⟩
theorem Six.c2 (h : Six w W sc mc l1 l2 n1 n2 r1 r2 r3 d1 d2 d3 d4 d5 v1 v2 v3 v4 v5) : Six w W sc mc l1 l2 n1 n2 r1 r2 r3 d1 d2 d3 true d5 v1 v2 v3 r2 v5 := ⟨h.s, h.m, h.lo, h.f1, h.f2, fun _ e => (by cases e), fun _ => rfl, h.f5⟩
theorem Six.c3 (h : Six w W sc mc l1 l2 n1 n2 r1 r2 r3 d1 d2 d3 d4 d5 v1 v2 v3 v4 v5) : Six w W sc mc l1 l2 n1 n2 r1 r2 r3 d1 d2 d3 d4 true v1 v2 v3 v4 r3 := ⟨h.s, h.m, h.lo, h.f1, h.f2, h.f3, h.f4, fun _ => rfl⟩
/-- a block that the sum goes to -/
def Goal1 (w W : World) (H L : Int) (d6 d7 : Bool) (v6 : Value) : Prop := d6 = true → ∃ g x y, w.heap.size + 1 < g ∧ v6 = .pointer (some ⟨g, 0, none⟩) ∧ Box W g 147 #[x, y] ∧ (d7 = true → x = .int .u64 H ∧ y = .int .u64 L)
theorem Goal1.under {H L : Int} {d6 d7 : Bool} {v6 : Value} (h : Goal1 w W H L d6 d7 v6) (hb : Below W.heap.size W W') : Goal1 w W' H L d6 d7 v6 := fun e => by
  obtain ⟨g, x, y, h1, h2, h3, h4⟩ := h e
  exact ⟨g, x, y, h1, h2, h3.under hb, h4⟩
end

set_option maxHeartbeats 8000000 in
set_option maxRecDepth 100000 in
theorem flows_walk (lo ri ar ga y vi g flow t : Int) (w : World) (A B C D : Nat) (H L : Int) (r : Bool) (ht : IntKind.i64.wrap (g * ga) = t) (hf : flow ≠ 0) (hty : y < t)
    (hA : ∀ W p, Box W p 2 (longC [2, t, t, t, ga, ar]) → Calls Try.prog 99 #[.slice (some ⟨p, 0, none⟩) 6 6] W fun e W' => e = .returned (wideV A) ∧ Below W.heap.size W W')
    (hB : ∀ W p, Box W p 2 (longC [y, y, y, ga, ar]) → Calls Try.prog 99 #[.slice (some ⟨p, 0, none⟩) 5 5] W fun e W' => e = .returned (wideV B) ∧ Below W.heap.size W W')
    (hC : ∀ W p, Box W p 2 (longC [3, y, t, t, ga, ar]) → Calls Try.prog 99 #[.slice (some ⟨p, 0, none⟩) 6 6] W fun e W' => e = .returned (wideV C) ∧ Below W.heap.size W W')
    (hD : ∀ W p, Box W p 2 (longC [flow, vi, t, t]) → Calls Try.prog 99 #[.slice (some ⟨p, 0, none⟩) 4 4] W fun e W' => e = .returned (wideV D) ∧ Below W.heap.size W W')
    (hAB : ∀ W, Calls Try.prog 100 #[wideV A, wideV B] W fun e W' => e = .returned (.agg #[.int .u64 H, .int .u64 L]) ∧ Below W.heap.size W W')
    (hCD : ∀ W, Calls Try.prog 100 #[wideV C, wideV D] W fun e W' => e = .returned (wideV (C + D)) ∧ Below W.heap.size W W')
    (hLE : ∀ W, Calls Try.prog 101 #[.agg #[.int .u64 H, .int .u64 L], wideV (C + D)] W fun e W' => e = .returned (.bool r) ∧ Below W.heap.size W W') :
    Calls Try.prog 79 #[.agg #[.int .i64 lo, .int .i64 ri, .int .i64 ar, .int .i64 ga], .agg #[.int .i64 y, .int .i64 vi], .int .i64 g, .int .i64 flow] w fun e w' => e = .returned (.bool r) ∧ Below w.heap.size w w' := by
  have HA := Lib.hid hA
  have HB := Lib.hid hB
  have HC := Lib.hid hC
  have HD := Lib.hid hD
  have HAB := Lib.hid hAB
  have HCD := Lib.hid hCD
  have HLE := Lib.hid hLE
  clear hA hB hC hD hAB hCD hLE
  obtain ⟨w0, hw0⟩ : ∃ w0, (w.alloc (.cells #[.int .i64 lo, .int .i64 ri, .int .i64 ar, .int .i64 ga] 29)).alloc (.cells #[.int .i64 y, .int .i64 vi] 47) = w0 := ⟨_, rfl⟩
  have bs : Box w0 w.heap.size 29 #[.int .i64 lo, .int .i64 ri, .int .i64 ar, .int .i64 ga] := by rw [← hw0]; exact (Box.new w _ _ rfl).alloc _
  have bm : Box w0 (w.heap.size + 1) 47 #[.int .i64 y, .int .i64 vi] := by rw [← hw0]; exact Box.new _ _ _ (by simp)
  have hB0 : Below w.heap.size w w0 := by rw [← hw0]; exact (by repeat (first | exact Below.refl _ _ | assumption | refine Below.setCell ?_ (by first | (simp; done) | (simp; omega)) _ | refine belowDrewN ?_ _ | refine Below.drew ?_ | refine Below.alloc ?_ (by first | (simp; done) | (simp; omega)) _))
  have HW0 := Lib.hid hw0
  have BS := Lib.hid bs
  have BM := Lib.hid bm
  have HB0 := Lib.hid hB0
  obtain ⟨q2, q3⟩ := seg_box1 bs
  obtain ⟨q4, q5⟩ := mud_box bm
  clear hw0 bs bm hB0
  have hf0 : (flow == 0) = false := by simpa using hf
  have hf1 : decide (t ≤ y) = false := decide_eq_false (by omega)
  clear hf hty
  go_enter Try.func79, Try.ntmps79
  go_upto_region 3 with fail
  rw [HW0.out]
  go_region
  go_upto_region 6 with fail
  clear q2 q3 q4 q5 HW0
  have HS := Lib.hid (fun W (h0 : Box W w.heap.size 29 #[.int .i64 lo, .int .i64 ri, .int .i64 ar, .int .i64 ga]) (h1 : Box W (w.heap.size + 1) 47 #[.int .i64 y, .int .i64 vi]) => (⟨(seg_box1 h0).1, (seg_box1 h0).2, mud_box h1⟩ : W.cell? ⟨w.heap.size, 2, none⟩ = some (.int .i64 ar) ∧ W.cell? ⟨w.heap.size, 3, none⟩ = some (.int .i64 ga) ∧ W.cell? ⟨w.heap.size + 1, 0, none⟩ = some (.int .i64 y) ∧ W.cell? ⟨w.heap.size + 1, 1, none⟩ = some (.int .i64 vi)))
  have S0 := BS.out.drew.drew
  have M0 := BM.out.drew.drew
  have L0 : Below w.heap.size w w0.drew.drew := HB0.out.trans (Below.refl _ w0).drew.drew
  clear BS BM HB0
  go_cut [11] (fun s11 wx => ∃ g3, w.heap.size + 1 < g3 ∧ s11 = .pointer (some ⟨g3, 0, none⟩) ∧ Hid (Box wx g3 147 #[.int .u64 H, .int .u64 L]) ∧ Hid (Box wx w.heap.size 29 #[.int .i64 lo, .int .i64 ri, .int .i64 ar, .int .i64 ga]) ∧ Hid (Box wx (w.heap.size + 1) 47 #[.int .i64 y, .int .i64 vi]) ∧ Hid (Below w.heap.size w wx))

  case first =>
    refine AnyBut.begin (S := (fun w' : World => w'.cell? ⟨w.heap.size, 2, none⟩ = some (.int .i64 ar) ∧ w'.cell? ⟨w.heap.size, 3, none⟩ = some (.int .i64 ga) ∧ w'.cell? ⟨w.heap.size + 1, 0, none⟩ = some (.int .i64 y) ∧ w'.cell? ⟨w.heap.size + 1, 1, none⟩ = some (.int .i64 vi))) (z := 100) mixed ?_
    refine AnyBut.take (i := 0) (v := .int .i64 t) rfl (by decide +kernel) (by decide +kernel) (by decide +kernel) (by decide +kernel) (fun _ _ _ h => h) (HS.out _ S0 M0) (Or.inl ⟨by simp [Region.wanted], fun w' hw' => by (obtain ⟨s0, s1, s2, s3⟩ := hw'; go_simp)⟩) ?_
    refine AnyBut.take (i := 1) (v := .int .i64 t) rfl (by decide +kernel) (by decide +kernel) (by decide +kernel) (by decide +kernel) (fun _ _ _ h => h) (HS.out _ S0 M0) (Or.inl ⟨by simp [Region.wanted], fun w' hw' => by (obtain ⟨s0, s1, s2, s3⟩ := hw'; go_simp)⟩) ?_
    refine AnyBut.take (i := 2) (v := .int .i64 t) rfl (by decide +kernel) (by decide +kernel) (by decide +kernel) (by decide +kernel) (fun _ _ _ h => h) (HS.out _ S0 M0) (Or.inl ⟨by simp [Region.wanted], fun w' hw' => by (obtain ⟨s0, s1, s2, s3⟩ := hw'; go_simp)⟩) ?_
    refine AnyBut.take (i := 3) (v := .pointer (some ⟨w.heap.size, 3, none⟩)) rfl (by decide +kernel) (by decide +kernel) (by decide +kernel) (by decide +kernel) (fun _ _ _ h => h) (HS.out _ S0 M0) (Or.inl ⟨by simp [Region.wanted], fun w' hw' => by (obtain ⟨s0, s1, s2, s3⟩ := hw'; go_simp)⟩) ?_
    refine AnyBut.take (i := 4) (v := .int .i64 ga) rfl (by decide +kernel) (by decide +kernel) (by decide +kernel) (by decide +kernel) (fun _ _ _ h => h) (HS.out _ S0 M0) (Or.inl ⟨by simp [Region.wanted], fun w' hw' => by (obtain ⟨s0, s1, s2, s3⟩ := hw'; go_simp)⟩) ?_
    refine AnyBut.take (i := 5) (v := .pointer (some ⟨w.heap.size, 2, none⟩)) rfl (by decide +kernel) (by decide +kernel) (by decide +kernel) (by decide +kernel) (fun _ _ _ h => h) (HS.out _ S0 M0) (Or.inl ⟨by simp [Region.wanted], fun w' hw' => by (obtain ⟨s0, s1, s2, s3⟩ := hw'; go_simp)⟩) ?_
    refine AnyBut.take (i := 6) (v := .int .i64 ar) rfl (by decide +kernel) (by decide +kernel) (by decide +kernel) (by decide +kernel) (fun _ _ _ h => h) (HS.out _ S0 M0) (Or.inl ⟨by simp [Region.wanted], fun w' hw' => by (obtain ⟨s0, s1, s2, s3⟩ := hw'; go_simp)⟩) ?_
    refine AnyBut.take (i := 9) (v := .int .i64 y) rfl (by decide +kernel) (by decide +kernel) (by decide +kernel) (by decide +kernel) (fun _ _ _ h => h) (HS.out _ S0 M0) (Or.inl ⟨by simp [Region.wanted], fun w' hw' => by (obtain ⟨s0, s1, s2, s3⟩ := hw'; go_simp)⟩) ?_
    refine AnyBut.take (i := 10) (v := .int .i64 y) rfl (by decide +kernel) (by decide +kernel) (by decide +kernel) (by decide +kernel) (fun _ _ _ h => h) (HS.out _ S0 M0) (Or.inl ⟨by simp [Region.wanted], fun w' hw' => by (obtain ⟨s0, s1, s2, s3⟩ := hw'; go_simp)⟩) ?_
    refine AnyBut.take (i := 11) (v := .int .i64 y) rfl (by decide +kernel) (by decide +kernel) (by decide +kernel) (by decide +kernel) (fun _ _ _ h => h) (HS.out _ S0 M0) (Or.inl ⟨by simp [Region.wanted], fun w' hw' => by (obtain ⟨s0, s1, s2, s3⟩ := hw'; go_simp)⟩) ?_
    refine AnyBut.take (i := 12) (v := .pointer (some ⟨w.heap.size, 3, none⟩)) rfl (by decide +kernel) (by decide +kernel) (by decide +kernel) (by decide +kernel) (fun _ _ _ h => h) (HS.out _ S0 M0) (Or.inl ⟨by simp [Region.wanted], fun w' hw' => by (obtain ⟨s0, s1, s2, s3⟩ := hw'; go_simp)⟩) ?_
    refine AnyBut.take (i := 13) (v := .int .i64 ga) rfl (by decide +kernel) (by decide +kernel) (by decide +kernel) (by decide +kernel) (fun _ _ _ h => h) (HS.out _ S0 M0) (Or.inl ⟨by simp [Region.wanted], fun w' hw' => by (obtain ⟨s0, s1, s2, s3⟩ := hw'; go_simp)⟩) ?_
    refine AnyBut.take (i := 14) (v := .pointer (some ⟨w.heap.size, 2, none⟩)) rfl (by decide +kernel) (by decide +kernel) (by decide +kernel) (by decide +kernel) (fun _ _ _ h => h) (HS.out _ S0 M0) (Or.inl ⟨by simp [Region.wanted], fun w' hw' => by (obtain ⟨s0, s1, s2, s3⟩ := hw'; go_simp)⟩) ?_
    refine AnyBut.take (i := 15) (v := .int .i64 ar) rfl (by decide +kernel) (by decide +kernel) (by decide +kernel) (by decide +kernel) (fun _ _ _ h => h) (HS.out _ S0 M0) (Or.inl ⟨by simp [Region.wanted], fun w' hw' => by (obtain ⟨s0, s1, s2, s3⟩ := hw'; go_simp)⟩) ?_
    refine at_act fun a' ha' => ?_
    simp [Act.put] at ha'
    subst ha'
    refine any_from (F := fun b0 a0 b a W => ∃ (d1 d2 d3 d4 d5 d6 d7 : Bool) (v1 v2 v3 v4 v5 v6 : Value), b = (((((((b0.setIfInBounds 7 d1).setIfInBounds 8 d2).setIfInBounds 16 d3).setIfInBounds 17 d4).setIfInBounds 18 d5).setIfInBounds 19 d6).setIfInBounds 20 d7) ∧ a = { tmps := ((((((a0.tmps.setIfInBounds 30 v1).setIfInBounds 31 v2).setIfInBounds 39 v3).setIfInBounds 40 v4).setIfInBounds 41 v5).setIfInBounds 11 v6), defers := a0.defers }
      ∧ Six w W #[.int .i64 lo, .int .i64 ri, .int .i64 ar, .int .i64 ga] #[.int .i64 y, .int .i64 vi] (longC [2, t, t, t, ga, ar]) (longC [y, y, y, ga, ar]) 6 5 (wideV A) (wideV B) (.agg #[.int .u64 H, .int .u64 L]) d1 d2 d3 d4 d5 v1 v2 v3 v4 v5 ∧ Goal1 w W H L d6 d7 v6 ∧ (d7 = true → d6 = true)) (by decide +kernel) ?h0 ?hS ?hs ?hd
    case h0 => exact ⟨false, false, false, false, false, false, false, undef, undef, undef, undef, undef, undef, by decide +kernel, by simp, ⟨S0, M0, L0, fun e => (by cases e), fun e => (by cases e), fun e => (by cases e), fun e => (by cases e), fun e => (by cases e)⟩, fun e => (by cases e), fun e => (by cases e)⟩
    case hS =>
      rintro b a W ⟨d1, d2, d3, d4, d5, d6, d7, v1, v2, v3, v4, v5, v6, _, _, h, hg, hc⟩
      exact HS.out _ h.s h.m
    case hs =>
      rintro b a W ⟨d1, d2, d3, d4, d5, d6, d7, v1, v2, v3, v4, v5, v6, rfl, rfl, h, hg, hc⟩ i hi
      have kb : key6 i d1 d2 d3 d4 d5 d6 = true := by
        clear h hg hc
        revert i
        revert d1 d2 d3 d4 d5 d6 d7
        decide +kernel
      have key : (i = 7 ∧ d1 = false) ∨ (i = 8 ∧ d1 = true ∧ d2 = false) ∨ (i = 16 ∧ d3 = false) ∨ (i = 17 ∧ d3 = true ∧ d4 = false) ∨ (i = 18 ∧ d2 = true ∧ d4 = true ∧ d5 = false) ∨ (i = 19 ∧ d6 = false) ∨ (i = 20 ∧ d5 = true ∧ d6 = true ∧ d2 = true ∧ d4 = true) := by simpa [key6, and_assoc, or_assoc] using kb
      clear kb
      clear hi
      rcases key with ⟨rfl, hk⟩ | ⟨rfl, hk⟩ | ⟨rfl, hk⟩ | ⟨rfl, hk⟩ | ⟨rfl, hk⟩ | ⟨rfl, hk⟩ | ⟨rfl, hk⟩
      · refine ⟨_, rfl, rfl, fun K hK => ?_⟩
        go_simp
        refine hK _ _ ⟨true, d2, d3, d4, d5, d6, d7, .slice (some ⟨W.heap.size, 0, none⟩) 6 6, v2, v3, v4, v5, v6, (by clear hK K h hg; revert d1 d2 d3 d4 d5 d6 d7; decide +kernel), by simp, h.bs1, hg.under ((Below.refl _ W).alloc (Nat.le_refl _) (.cells (longC [2, t, t, t, ga, ar]) 2)), hc⟩
      · obtain ⟨p, rfl, hp⟩ := h.f1 hk.1 hk.2
        refine ⟨_, rfl, rfl, fun K hK => ?_⟩
        go_simp
        refine (HA.out _ _ hp).mono ?_
        rintro e W' ⟨rfl, hb⟩
        refine hK _ _ ⟨d1, true, d3, d4, d5, d6, d7, .slice (some ⟨p, 0, none⟩) 6 6, (wideV A), v3, v4, v5, v6, (by clear hK K h hg; revert d1 d2 d3 d4 d5 d6 d7; decide +kernel), by simp, (h.under hb).c1, hg.under hb, hc⟩
      · refine ⟨_, rfl, rfl, fun K hK => ?_⟩
        go_simp
        refine hK _ _ ⟨d1, d2, true, d4, d5, d6, d7, v1, v2, .slice (some ⟨W.heap.size, 0, none⟩) 5 5, v4, v5, v6, (by clear hK K h hg; revert d1 d2 d3 d4 d5 d6 d7; decide +kernel), by simp, h.bs2, hg.under ((Below.refl _ W).alloc (Nat.le_refl _) (.cells (longC [y, y, y, ga, ar]) 2)), hc⟩
      · obtain ⟨p, rfl, hp⟩ := h.f3 hk.1 hk.2
        refine ⟨_, rfl, rfl, fun K hK => ?_⟩
        go_simp
        refine (HB.out _ _ hp).mono ?_
        rintro e W' ⟨rfl, hb⟩
        refine hK _ _ ⟨d1, d2, d3, true, d5, d6, d7, v1, v2, .slice (some ⟨p, 0, none⟩) 5 5, (wideV B), v5, v6, (by clear hK K h hg; revert d1 d2 d3 d4 d5 d6 d7; decide +kernel), by simp, (h.under hb).c2, hg.under hb, hc⟩
      · obtain rfl := h.f2 hk.1
        obtain rfl := h.f4 hk.2.1
        refine ⟨_, rfl, rfl, fun K hK => ?_⟩
        go_simp
        refine (HAB.out _).mono ?_
        rintro e W' ⟨rfl, hb⟩
        refine hK _ _ ⟨d1, d2, d3, d4, true, d6, d7, v1, (wideV A), v3, (wideV B), (.agg #[.int .u64 H, .int .u64 L]), v6, (by clear hK K h hg; revert d1 d2 d3 d4 d5 d6 d7; decide +kernel), by simp, (h.under hb).c3, hg.under hb, hc⟩
      · refine ⟨_, rfl, rfl, fun K hK => ?_⟩
        go_simp
        refine hK _ _ ⟨d1, d2, d3, d4, d5, true, d7, v1, v2, v3, v4, v5, .pointer (some ⟨W.heap.size, 0, none⟩), (by clear hK K h hg; revert d1 d2 d3 d4 d5 d6 d7; decide +kernel), by simp, h.under ((Below.refl _ W).alloc (Nat.le_refl _) (.cells #[.int .u64 0, .int .u64 0] 147)), fun _ => ⟨_, _, _, h.m.lt, rfl, Box.new _ _ _ rfl, fun e => absurd (hk.symm.trans (hc e)) (by decide)⟩, fun _ => rfl⟩
      · obtain rfl := h.f5 hk.1
        obtain ⟨g3, x, y', hlt, rfl, hx, he⟩ := hg hk.2.1
        obtain ⟨x0, x1⟩ := wide_box hx
        obtain ⟨x2, x3⟩ := wide_free hx
        obtain ⟨s1, s2, s3, s4⟩ := store_wide hlt hx h.s h.m h.lo H L
        refine ⟨_, rfl, rfl, fun K hK => ?_⟩
        go_simp
        refine hK _ _ ⟨d1, d2, d3, d4, d5, d6, true, v1, v2, v3, v4, .agg #[.int .u64 H, .int .u64 L], .pointer (some ⟨g3, 0, none⟩), (by clear hK K h hg he; revert d1 d2 d3 d4 d5 d6 d7; decide +kernel), by simp, ⟨s2, s3, s4, fun _ e => absurd (hk.2.2.1.symm.trans e) (by decide), h.f2, fun _ e => absurd (hk.2.2.2.symm.trans e) (by decide), h.f4, fun _ => rfl⟩, fun _ => ⟨g3, _, _, hlt, rfl, s1, fun _ => ⟨rfl, rfl⟩⟩, fun _ => hk.2.1⟩
    case hd =>
      rintro b a W ⟨d1, d2, d3, d4, d5, d6, d7, v1, v2, v3, v4, v5, v6, rfl, rfl, h, hg, hc⟩ hr
      have key : d6 = true ∧ d7 = true := by
        clear h hg hc
        revert d1 d2 d3 d4 d5 d6 d7
        decide +kernel
      obtain ⟨g3, x, y', hlt, rfl, hx, he⟩ := hg key.1
      obtain ⟨rfl, rfl⟩ := he key.2
      clear hr key he
      simp
      go_wp2_with fail
      go_meet
      exact ⟨_, hlt, rfl, hx, h.s, h.m, h.lo⟩
  case rest =>
    obtain ⟨g3, hg3, rfl, X, BS, BM, LL⟩ := hcut
    clear S0 M0 L0 HS
    have HS := Lib.hid (fun W (h0 : Box W w.heap.size 29 #[.int .i64 lo, .int .i64 ri, .int .i64 ar, .int .i64 ga]) (h1 : Box W (w.heap.size + 1) 47 #[.int .i64 y, .int .i64 vi]) (h2 : Box W g3 147 #[.int .u64 H, .int .u64 L]) => (⟨(seg_box1 h0).1, (seg_box1 h0).2, (mud_box h1).2, wide_box h2⟩ : W.cell? ⟨w.heap.size, 2, none⟩ = some (.int .i64 ar) ∧ W.cell? ⟨w.heap.size, 3, none⟩ = some (.int .i64 ga) ∧ W.cell? ⟨w.heap.size + 1, 1, none⟩ = some (.int .i64 vi) ∧ W.cell? ⟨g3, 0, none⟩ = some (.int .u64 H) ∧ W.cell? ⟨g3, 1, none⟩ = some (.int .u64 L)))
    have S0 := BS.out.drew
    have M0 := BM.out.drew
    have X0 := X.out.drew
    have L0 := LL.out.trans (Below.refl _ wc).drew
    clear BS BM X LL
    go_upto_region 7 with fail
    refine AnyBut.begin (S := fun w' : World => w'.cell? ⟨w.heap.size, 2, none⟩ = some (.int .i64 ar) ∧ w'.cell? ⟨w.heap.size, 3, none⟩ = some (.int .i64 ga) ∧ w'.cell? ⟨w.heap.size + 1, 1, none⟩ = some (.int .i64 vi) ∧ w'.cell? ⟨g3, 0, none⟩ = some (.int .u64 H) ∧ w'.cell? ⟨g3, 1, none⟩ = some (.int .u64 L)) (z := 100) mixed ?_
    refine AnyBut.take (i := 0) (v := .agg #[.int .u64 H, .int .u64 L]) rfl (by decide +kernel) (by decide +kernel) (by decide +kernel) (by decide +kernel) (fun _ _ _ h => h) (HS.out _ S0 M0 X0) (Or.inl ⟨by simp [Region.wanted], fun w' hw' => by (obtain ⟨s0, s1, s2, s3, s4⟩ := hw'; go_simp)⟩) ?_
    refine AnyBut.take (i := 1) (v := .int .i64 y) rfl (by decide +kernel) (by decide +kernel) (by decide +kernel) (by decide +kernel) (fun _ _ _ h => h) (HS.out _ S0 M0 X0) (Or.inl ⟨by simp [Region.wanted], fun w' hw' => by (obtain ⟨s0, s1, s2, s3, s4⟩ := hw'; go_simp)⟩) ?_
    refine AnyBut.take (i := 2) (v := .int .i64 t) rfl (by decide +kernel) (by decide +kernel) (by decide +kernel) (by decide +kernel) (fun _ _ _ h => h) (HS.out _ S0 M0 X0) (Or.inl ⟨by simp [Region.wanted], fun w' hw' => by (obtain ⟨s0, s1, s2, s3, s4⟩ := hw'; go_simp)⟩) ?_
    refine AnyBut.take (i := 3) (v := .int .i64 t) rfl (by decide +kernel) (by decide +kernel) (by decide +kernel) (by decide +kernel) (fun _ _ _ h => h) (HS.out _ S0 M0 X0) (Or.inl ⟨by simp [Region.wanted], fun w' hw' => by (obtain ⟨s0, s1, s2, s3, s4⟩ := hw'; go_simp)⟩) ?_
    refine AnyBut.take (i := 4) (v := .pointer (some ⟨w.heap.size, 3, none⟩)) rfl (by decide +kernel) (by decide +kernel) (by decide +kernel) (by decide +kernel) (fun _ _ _ h => h) (HS.out _ S0 M0 X0) (Or.inl ⟨by simp [Region.wanted], fun w' hw' => by (obtain ⟨s0, s1, s2, s3, s4⟩ := hw'; go_simp)⟩) ?_
    refine AnyBut.take (i := 5) (v := .int .i64 ga) rfl (by decide +kernel) (by decide +kernel) (by decide +kernel) (by decide +kernel) (fun _ _ _ h => h) (HS.out _ S0 M0 X0) (Or.inl ⟨by simp [Region.wanted], fun w' hw' => by (obtain ⟨s0, s1, s2, s3, s4⟩ := hw'; go_simp)⟩) ?_
    refine AnyBut.take (i := 6) (v := .pointer (some ⟨w.heap.size, 2, none⟩)) rfl (by decide +kernel) (by decide +kernel) (by decide +kernel) (by decide +kernel) (fun _ _ _ h => h) (HS.out _ S0 M0 X0) (Or.inl ⟨by simp [Region.wanted], fun w' hw' => by (obtain ⟨s0, s1, s2, s3, s4⟩ := hw'; go_simp)⟩) ?_
    refine AnyBut.take (i := 7) (v := .int .i64 ar) rfl (by decide +kernel) (by decide +kernel) (by decide +kernel) (by decide +kernel) (fun _ _ _ h => h) (HS.out _ S0 M0 X0) (Or.inl ⟨by simp [Region.wanted], fun w' hw' => by (obtain ⟨s0, s1, s2, s3, s4⟩ := hw'; go_simp)⟩) ?_
    refine AnyBut.take (i := 10) (v := .int .i64 flow) rfl (by decide +kernel) (by decide +kernel) (by decide +kernel) (by decide +kernel) (fun _ _ _ h => h) (HS.out _ S0 M0 X0) (Or.inl ⟨by simp [Region.wanted], fun w' hw' => by (obtain ⟨s0, s1, s2, s3, s4⟩ := hw'; go_simp)⟩) ?_
    refine AnyBut.take (i := 11) (v := .pointer (some ⟨w.heap.size + 1, 1, none⟩)) rfl (by decide +kernel) (by decide +kernel) (by decide +kernel) (by decide +kernel) (fun _ _ _ h => h) (HS.out _ S0 M0 X0) (Or.inl ⟨by simp [Region.wanted], fun w' hw' => by (obtain ⟨s0, s1, s2, s3, s4⟩ := hw'; go_simp)⟩) ?_
    refine AnyBut.take (i := 12) (v := .int .i64 vi) rfl (by decide +kernel) (by decide +kernel) (by decide +kernel) (by decide +kernel) (fun _ _ _ h => h) (HS.out _ S0 M0 X0) (Or.inl ⟨by simp [Region.wanted], fun w' hw' => by (obtain ⟨s0, s1, s2, s3, s4⟩ := hw'; go_simp)⟩) ?_
    refine AnyBut.take (i := 13) (v := .int .i64 t) rfl (by decide +kernel) (by decide +kernel) (by decide +kernel) (by decide +kernel) (fun _ _ _ h => h) (HS.out _ S0 M0 X0) (Or.inl ⟨by simp [Region.wanted], fun w' hw' => by (obtain ⟨s0, s1, s2, s3, s4⟩ := hw'; go_simp)⟩) ?_
    refine AnyBut.take (i := 14) (v := .int .i64 t) rfl (by decide +kernel) (by decide +kernel) (by decide +kernel) (by decide +kernel) (fun _ _ _ h => h) (HS.out _ S0 M0 X0) (Or.inl ⟨by simp [Region.wanted], fun w' hw' => by (obtain ⟨s0, s1, s2, s3, s4⟩ := hw'; go_simp)⟩) ?_
    refine at_act fun a' ha' => ?_
    simp [Act.put] at ha'
    subst ha'
    refine any_from (F := fun b0 a0 b a W => ∃ (d1 d2 d3 d4 d5 d6 d7 : Bool) (v1 v2 v3 v4 v5 v6 v7 : Value), b = (((((((b0.setIfInBounds 8 d1).setIfInBounds 9 d2).setIfInBounds 15 d3).setIfInBounds 16 d4).setIfInBounds 17 d5).setIfInBounds 18 d6).setIfInBounds 19 d7) ∧ a = { tmps := (((((((a0.tmps.setIfInBounds 50 v1).setIfInBounds 51 v2).setIfInBounds 57 v3).setIfInBounds 58 v4).setIfInBounds 59 v5).setIfInBounds 60 v6).setIfInBounds 8 v7), defers := a0.defers }
      ∧ Six w W #[.int .i64 lo, .int .i64 ri, .int .i64 ar, .int .i64 ga] #[.int .i64 y, .int .i64 vi] (longC [3, y, t, t, ga, ar]) (longC [flow, vi, t, t]) 6 4 (wideV C) (wideV D) (wideV (C + D)) d1 d2 d3 d4 d5 v1 v2 v3 v4 v5 ∧ Box W g3 147 #[.int .u64 H, .int .u64 L] ∧ (d6 = true → v6 = .bool r) ∧ (d7 = true → v7 = .bool r)) (by decide +kernel) ?h0 ?hS ?hs ?hd
    case h0 => exact ⟨false, false, false, false, false, false, false, u50, u51, u57, u58, u59, u60, .bool false, by decide +kernel, by simp, ⟨S0, M0, L0, fun e => (by cases e), fun e => (by cases e), fun e => (by cases e), fun e => (by cases e), fun e => (by cases e)⟩, X0, fun e => (by cases e), fun e => (by cases e)⟩
    case hS =>
      rintro b a W ⟨d1, d2, d3, d4, d5, d6, d7, v1, v2, v3, v4, v5, v6, v7, _, _, h, hx, hg, hc⟩
      exact HS.out _ h.s h.m hx
    case hs =>
      rintro b a W ⟨d1, d2, d3, d4, d5, d6, d7, v1, v2, v3, v4, v5, v6, v7, rfl, rfl, h, hx, hg, hc⟩ i hi
      have kb : key7 i d1 d2 d3 d4 d5 d6 = true := by
        clear h hx hg hc
        revert i
        revert d1 d2 d3 d4 d5 d6 d7
        decide +kernel
      have key : (i = 8 ∧ d1 = false) ∨ (i = 9 ∧ d1 = true ∧ d2 = false) ∨ (i = 15 ∧ d3 = false) ∨ (i = 16 ∧ d3 = true ∧ d4 = false) ∨ (i = 17 ∧ d2 = true ∧ d4 = true ∧ d5 = false) ∨ (i = 18 ∧ d5 = true ∧ d6 = false) ∨ (i = 19 ∧ d6 = true) := by simpa [key7, and_assoc, or_assoc] using kb
      clear kb
      clear hi
      rcases key with ⟨rfl, hk⟩ | ⟨rfl, hk⟩ | ⟨rfl, hk⟩ | ⟨rfl, hk⟩ | ⟨rfl, hk⟩ | ⟨rfl, hk⟩ | ⟨rfl, hk⟩
      · refine ⟨_, rfl, rfl, fun K hK => ?_⟩
        go_simp
        refine hK _ _ ⟨true, d2, d3, d4, d5, d6, d7, .slice (some ⟨W.heap.size, 0, none⟩) 6 6, v2, v3, v4, v5, v6, v7, (by clear hK K h hx hg hc; revert d1 d2 d3 d4 d5 d6 d7; decide +kernel), by simp, h.bs1, hx.alloc _, hg, hc⟩
      · obtain ⟨p, rfl, hp⟩ := h.f1 hk.1 hk.2
        refine ⟨_, rfl, rfl, fun K hK => ?_⟩
        go_simp
        refine (HC.out _ _ hp).mono ?_
        rintro e W' ⟨rfl, hb⟩
        refine hK _ _ ⟨d1, true, d3, d4, d5, d6, d7, .slice (some ⟨p, 0, none⟩) 6 6, (wideV C), v3, v4, v5, v6, v7, (by clear hK K h hx hg hc; revert d1 d2 d3 d4 d5 d6 d7; decide +kernel), by simp, (h.under hb).c1, hx.under hb, hg, hc⟩
      · refine ⟨_, rfl, rfl, fun K hK => ?_⟩
        go_simp
        refine hK _ _ ⟨d1, d2, true, d4, d5, d6, d7, v1, v2, .slice (some ⟨W.heap.size, 0, none⟩) 4 4, v4, v5, v6, v7, (by clear hK K h hx hg hc; revert d1 d2 d3 d4 d5 d6 d7; decide +kernel), by simp, h.bs2, hx.alloc _, hg, hc⟩
      · obtain ⟨p, rfl, hp⟩ := h.f3 hk.1 hk.2
        refine ⟨_, rfl, rfl, fun K hK => ?_⟩
        go_simp
        refine (HD.out _ _ hp).mono ?_
        rintro e W' ⟨rfl, hb⟩
        refine hK _ _ ⟨d1, d2, d3, true, d5, d6, d7, v1, v2, .slice (some ⟨p, 0, none⟩) 4 4, (wideV D), v5, v6, v7, (by clear hK K h hx hg hc; revert d1 d2 d3 d4 d5 d6 d7; decide +kernel), by simp, (h.under hb).c2, hx.under hb, hg, hc⟩
      · obtain rfl := h.f2 hk.1
        obtain rfl := h.f4 hk.2.1
        refine ⟨_, rfl, rfl, fun K hK => ?_⟩
        go_simp
        refine (HCD.out _).mono ?_
        rintro e W' ⟨rfl, hb⟩
        refine hK _ _ ⟨d1, d2, d3, d4, true, d6, d7, v1, (wideV C), v3, (wideV D), (wideV (C + D)), v6, v7, (by clear hK K h hx hg hc; revert d1 d2 d3 d4 d5 d6 d7; decide +kernel), by simp, (h.under hb).c3, hx.under hb, hg, hc⟩
      · obtain rfl := h.f5 hk.1
        refine ⟨_, rfl, rfl, fun K hK => ?_⟩
        go_simp
        refine (HLE.out _).mono ?_
        rintro e W' ⟨rfl, hb⟩
        refine hK _ _ ⟨d1, d2, d3, d4, d5, true, d7, v1, v2, v3, v4, wideV (C + D), .bool r, v7, (by clear hK K h hx hg hc; revert d1 d2 d3 d4 d5 d6 d7; decide +kernel), by simp, h.under hb, hx.under hb, fun _ => rfl, hc⟩
      · obtain rfl := hg hk
        refine ⟨_, rfl, rfl, fun K hK => ?_⟩
        go_simp
        refine hK _ _ ⟨d1, d2, d3, d4, d5, d6, true, v1, v2, v3, v4, v5, .bool r, .bool r, (by clear hK K h hx hg hc; revert d1 d2 d3 d4 d5 d6 d7; decide +kernel), by simp, h, hx, hg, fun _ => rfl⟩
    case hd =>
      rintro b a W ⟨d1, d2, d3, d4, d5, d6, d7, v1, v2, v3, v4, v5, v6, v7, rfl, rfl, h, hx, hg, hc⟩ hr
      have key : d7 = true := by
        clear h hx hg hc
        revert d1 d2 d3 d4 d5 d6 d7
        decide +kernel
      obtain rfl := hc key
      clear hr key
      simp
      go_wp2_with fail
      go_ret
      exact ⟨rfl, h.lo⟩

end Go.Proofs.Ytgcfplkfclapiaa
