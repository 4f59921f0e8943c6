/- Walks of the package casing: what tests have proven. -/
import Derived.Test.YtannipfohicpmaaAwake
namespace Go.Proofs.Ytannipfohicpmaa
open Go.RowKit Go.Shelf Mpl
attribute [local go_sem] Oper.semAt_some

def ts (l : List Test) (i : Nat) : Test := l[i]?.getD ⟨0, false, 0⟩
def Tests (w : World) (B : Nat) (A : Option Addr) (l : List Test) : Prop :=
  0 < l.length → ∃ b off, A = some ⟨b, off, none⟩ ∧ b < B ∧ ∀ i, i < l.length → w.cell? ⟨b, off + i * 3, none⟩ = some (.int .i64 (ts l i).P) ∧ w.cell? ⟨b, off + i * 3 + 1, none⟩ = some (.bool (ts l i).Held) ∧ w.cell? ⟨b, off + i * 3 + 2, none⟩ = some (.int .i64 (ts l i).Tick)
theorem Tests.up {w w' : World} {B B' : Nat} {A : Option Addr} {l : List Test} (h : Tests w B A l) (hb : Below B w w') (hB : B ≤ B') : Tests w' B' A l := fun h0 => by
  obtain ⟨b, off, rfl, hlt, hc⟩ := h h0
  exact ⟨b, off, rfl, Nat.lt_of_lt_of_le hlt hB, fun i hi => ⟨oldCell hb hlt (hc i hi).1, oldCell hb hlt (hc i hi).2.1, oldCell hb hlt (hc i hi).2.2⟩⟩
def testV (t : Test) : Value := .agg #[.int .i64 t.P, .bool t.Held, .int .i64 t.Tick]

theorem enters_Proven1 : ∀ args w, (callFunc 59 args).run Try.prog w = .ok (.enter 59 args) w := enters_of Try.func59 (by kernel_rfl) rfl
theorem enters_Proven11 : ∀ args w, (callFunc 60 args).run Try.prog w = .ok (.enter 60 args) w := enters_of Try.func60 (by kernel_rfl) rfl

set_option maxHeartbeats 1000000 in
theorem casing_Proven11 (x t : Test) (g gn : Nat) (now : Int) (w : World) (hb : Box w g 55 #[.int .i64 t.P, .bool t.Held, .int .i64 t.Tick]) (hn : Box w gn 2 #[.int .i64 now]) :
    Calls Try.prog 60 #[testV x, .pointer (some ⟨g, 0, none⟩), .pointer (some ⟨gn, 0, none⟩)] w fun e w' => e = .returned (.bool (!x.Held && within x.Tick t.Tick now)) ∧ Below w.heap.size w w' := by
  obtain ⟨xp, xh, xt⟩ := x
  have q := hb.cell 2
  have qn := hn.cell 0
  have hgl := hb.lt
  have hnl := hn.lt
  simp only [List.getElem?_toArray, List.getElem?_cons_zero, List.getElem?_cons_succ] at q qn
  clear hb hn
  generalize t.Tick = tt at *
  unfold testV
  cases xh
  · go_enter Try.func60, Try.ntmps60
    go_wp2_with (go_at_call 48; refine (casing_within _ _ _ _).mono ?_; rintro e w' ⟨rfl, rfl⟩)
    go_ret
    exact ⟨rfl, (by repeat (first | exact Below.refl _ _ | assumption | refine Below.setCell ?_ (by first | (simp; done) | (simp; omega)) _ | refine belowDrewN ?_ _ | refine Below.drew ?_ | refine Below.alloc ?_ (by first | (simp; done) | (simp; omega)) _))⟩
  · go_enter Try.func60, Try.ntmps60
    go_wp2_with fail
    go_ret
    exact ⟨rfl, (by repeat (first | exact Below.refl _ _ | assumption | refine Below.setCell ?_ (by first | (simp; done) | (simp; omega)) _ | refine belowDrewN ?_ _ | refine Below.drew ?_ | refine Below.alloc ?_ (by first | (simp; done) | (simp; omega)) _))⟩

def inI64 (n : Int) : Prop := -9223372036854775808 ≤ n ∧ n ≤ 9223372036854775807

theorem u64_i64_sub {a b : Int} (ha : inI64 a) (hb : inI64 b) (h : b ≤ a) : IntKind.u64.wrap (wrap64 (a - b)) = a - b := by
  unfold inI64 at ha hb
  simp [IntKind.wrap, IntKind.bits, IntKind.signed, wrap64]
  omega

/-- what a test must be to prove something -/
def provesAt (l : List Test) (need now age : Int) (t : Test) : Bool :=
  t.Held && decide (need ≤ t.P) && decide (t.Tick ≤ now) && decide (now - t.Tick ≤ age) && !(l.any fun x => !x.Held && within x.Tick t.Tick now)

set_option maxHeartbeats 1000000 in
theorem casing_Proven1 (t : Test) (l : List Test) (gq gn ga gl : Nat) (need now age : Int) (A : Option Addr) (c : Nat) (w : World)
    (hq : Box w gq 2 #[.int .i64 need]) (hn : Box w gn 2 #[.int .i64 now]) (ha : Box w ga 2 #[.int .i64 age]) (hl : Box w gl 52 #[.slice A l.length c])
    (hT : Tests w w.heap.size A l) (hL : l.length ≤ 24) (hage : 0 ≤ age) (iage : inI64 age) (inow : inI64 now) (itick : inI64 t.Tick) :
    Calls Try.prog 59 #[testV t, .pointer (some ⟨gq, 0, none⟩), .pointer (some ⟨gn, 0, none⟩), .pointer (some ⟨ga, 0, none⟩), .pointer (some ⟨gl, 0, none⟩)] w fun e w' => e = .returned (.bool (provesAt l need now age t)) ∧ Below w.heap.size w w' := by
  obtain ⟨tp, th, tt⟩ := t
  have HT := Lib.hid hT
  have HC := Lib.hid (fun W (hW : Below w.heap.size w W) (hb : Box W w.heap.size 55 #[.int .i64 tp, .bool th, .int .i64 tt]) (hn : Box W gn 2 #[.int .i64 now]) =>
    contains_test 60 #[.pointer (some ⟨w.heap.size, 0, none⟩), .pointer (some ⟨gn, 0, none⟩)] enters_Proven11 (fun i => !(ts l i).Held && within (ts l i).Tick tt now) (fun i => .int .i64 (ts l i).P) (fun i => .bool (ts l i).Held) (fun i => .int .i64 (ts l i).Tick) A l.length c W (by omega)
      (fun h0 => by obtain ⟨b, off, rfl, hlt, hc⟩ := HT.out h0; exact ⟨b, off, rfl, Nat.lt_of_lt_of_le hlt hW.size, fun i hi => ⟨oldCell hW hlt (hc i hi).1, oldCell hW hlt (hc i hi).2.1, oldCell hW hlt (hc i hi).2.2⟩⟩)
      (fun i _ W' hW' => casing_Proven11 (ts l i) ⟨tp, th, tt⟩ _ _ _ W' (hb.under hW') (hn.under hW')))
  rw [any_get (fun x => !x.Held && within x.Tick tt now) l _ (fun i hi => by simp [ts, hi])] at HC
  have hP : Hid (provesAt l need now age ⟨tp, th, tt⟩ = (th && decide (need ≤ tp) && decide (tt ≤ now) && decide (now - tt ≤ age) && !(l.any fun x => !x.Held && within x.Tick tt now))) := rfl
  generalize (l.any fun x => !x.Held && within x.Tick tt now) = an at *
  generalize provesAt l need now age ⟨tp, th, tt⟩ = res at *
  have HN := Lib.hid hn
  have qq := hq.cell 0
  have qn := hn.cell 0
  have qa := ha.cell 0
  have ql := hl.cell 0
  have lq := hq.lt
  have ln := hn.lt
  have la := ha.lt
  have ll := hl.lt
  simp only [List.getElem?_toArray, List.getElem?_cons_zero] at qq qn qa ql
  have hcv := fun h : tt ≤ now => u64_i64_sub inow itick h
  have hca : IntKind.u64.wrap age = age := IntWalk.u64_in _ (by unfold inI64 at iage; omega)
  clear hq hn ha hl hT iage inow itick
  generalize l.length = nl at *
  unfold testV
  cases th
  · go_enter Try.func59, Try.ntmps59
    go_wp2_with fail
    go_ret
    exact ⟨ret_bool (by rw [hP.out]; rfl), (by repeat (first | exact Below.refl _ _ | assumption | refine Below.setCell ?_ (by first | (simp; done) | (simp; omega)) _ | refine belowDrewN ?_ _ | refine Below.drew ?_ | refine Below.alloc ?_ (by first | (simp; done) | (simp; omega)) _))⟩
  by_cases h1 : need ≤ tp
  case neg =>
    have h1' : decide (tp < need) = true := decide_eq_true (by omega)
    go_enter Try.func59, Try.ntmps59
    go_wp2_with fail
    go_ret
    exact ⟨ret_bool (by rw [hP.out]; simp; omega), (by repeat (first | exact Below.refl _ _ | assumption | refine Below.setCell ?_ (by first | (simp; done) | (simp; omega)) _ | refine belowDrewN ?_ _ | refine Below.drew ?_ | refine Below.alloc ?_ (by first | (simp; done) | (simp; omega)) _))⟩
  have h1' : decide (tp < need) = false := decide_eq_false (by omega)
  by_cases h2 : tt ≤ now
  case neg =>
    have h2' : decide (now < tt) = true := decide_eq_true (by omega)
    go_enter Try.func59, Try.ntmps59
    go_wp2_with fail
    go_ret
    exact ⟨ret_bool (by rw [hP.out]; simp; omega), (by repeat (first | exact Below.refl _ _ | assumption | refine Below.setCell ?_ (by first | (simp; done) | (simp; omega)) _ | refine belowDrewN ?_ _ | refine Below.drew ?_ | refine Below.alloc ?_ (by first | (simp; done) | (simp; omega)) _))⟩
  have h2' : decide (now < tt) = false := decide_eq_false (by omega)
  replace hcv := hcv h2
  by_cases h3 : now - tt ≤ age
  case neg =>
    have h3' : decide (age < now - tt) = true := decide_eq_true (by omega)
    go_enter Try.func59, Try.ntmps59
    go_wp2_with fail
    go_ret
    exact ⟨ret_bool (by rw [hP.out]; simp; omega), (by repeat (first | exact Below.refl _ _ | assumption | refine Below.setCell ?_ (by first | (simp; done) | (simp; omega)) _ | refine belowDrewN ?_ _ | refine Below.drew ?_ | refine Below.alloc ?_ (by first | (simp; done) | (simp; omega)) _))⟩
  have h3' : decide (age < now - tt) = false := decide_eq_false (by omega)
  go_enter Try.func59, Try.ntmps59
  go_wp2_with fail
  refine (HC.out _ (by repeat (first | exact Below.refl _ _ | assumption | refine Below.setCell ?_ (by first | (simp; done) | (simp; omega)) _ | refine belowDrewN ?_ _ | refine Below.drew ?_ | refine Below.alloc ?_ (by first | (simp; done) | (simp; omega)) _)) (Box.new _ _ _ rfl) (HN.out.alloc _)).mono ?_
  rintro e w2 ⟨rfl, hb2⟩
  go_wp2_with fail
  go_ret
  exact ⟨ret_bool (by rw [hP.out]; simp [h1, h2, h3]), ((Below.refl _ w).alloc (Nat.le_refl _) _).trans (hb2.mono (by simp))⟩

def ticksIn (l : List Test) : Prop := ∀ i, inI64 (ts l i).Tick

theorem proven_eq (l : List Test) (need now age : Int) : proven l need now age = if 24 < l.length ∨ age < 0 then false else l.any (provesAt l need now age) := rfl

set_option maxHeartbeats 1000000 in
theorem casing_Proven (l : List Test) (need now age : Int) (A : Option Addr) (c : Nat) (w : World) (hT : Tests w w.heap.size A l) (iage : inI64 age) (inow : inI64 now) (itick : ticksIn l) :
    Calls Try.prog 32 #[.slice A l.length c, .int .i64 need, .int .i64 now, .int .i64 age] w fun e w' => e = .returned (.bool (proven l need now age)) ∧ Below w.heap.size w w' := by
  rw [proven_eq]
  by_cases h1 : 24 < l.length
  · have h1' : decide ((24 : Int) < (l.length : Int)) = true := decide_eq_true (by omega)
    rw [if_pos (Or.inl h1)]
    clear hT itick iage inow
    generalize l.length = nl at *
    go_enter Try.func32, Try.ntmps32
    go_wp2_with fail
    go_ret
    exact ⟨rfl, (by repeat (first | exact Below.refl _ _ | assumption | refine Below.setCell ?_ (by first | (simp; done) | (simp; omega)) _ | refine belowDrewN ?_ _ | refine Below.drew ?_ | refine Below.alloc ?_ (by first | (simp; done) | (simp; omega)) _))⟩
  have h1' : decide ((24 : Int) < (l.length : Int)) = false := decide_eq_false (by omega)
  by_cases h2 : age < 0
  · have h2' : decide (age < 0) = true := decide_eq_true (by omega)
    rw [if_pos (Or.inr h2)]
    clear hT itick iage inow
    generalize l.length = nl at *
    go_enter Try.func32, Try.ntmps32
    go_wp2_with fail
    go_ret
    exact ⟨rfl, (by repeat (first | exact Below.refl _ _ | assumption | refine Below.setCell ?_ (by first | (simp; done) | (simp; omega)) _ | refine belowDrewN ?_ _ | refine Below.drew ?_ | refine Below.alloc ?_ (by first | (simp; done) | (simp; omega)) _))⟩
  have h2' : decide (age < 0) = false := decide_eq_false (by omega)
  rw [if_neg (by omega)]
  obtain ⟨w4, hw4⟩ : ∃ w4, ((((w.alloc (.cells #[.slice A l.length c] 52)).alloc (.cells #[.int .i64 need] 2)).alloc (.cells #[.int .i64 now] 2)).alloc (.cells #[.int .i64 age] 2)) = w4 := ⟨_, rfl⟩
  have b0 : Box w4 w.heap.size 52 #[.slice A l.length c] := by rw [← hw4]; exact (((Box.new w _ _ rfl).alloc _).alloc _).alloc _
  have b1 : Box w4 (w.heap.size + 1) 2 #[.int .i64 need] := by rw [← hw4]; exact ((Box.new _ _ _ (by simp)).alloc _).alloc _
  have b2 : Box w4 (w.heap.size + 1 + 1) 2 #[.int .i64 now] := by rw [← hw4]; exact (Box.new _ _ _ (by simp)).alloc _
  have b3 : Box w4 (w.heap.size + 1 + 1 + 1) 2 #[.int .i64 age] := by rw [← hw4]; exact Box.new _ _ _ (by simp)
  have hB4 : Below w.heap.size w w4 := by rw [← hw4]; exact (by repeat (first | exact Below.refl _ _ | assumption | refine Below.setCell ?_ (by first | (simp; done) | (simp; omega)) _ | refine belowDrewN ?_ _ | refine Below.drew ?_ | refine Below.alloc ?_ (by first | (simp; done) | (simp; omega)) _))
  have hT4 : Tests w4 w4.heap.size A l := hT.up hB4 hB4.size
  have HC := Lib.hid (contains_test 59 #[.pointer (some ⟨w.heap.size + 1, 0, none⟩), .pointer (some ⟨w.heap.size + 1 + 1, 0, none⟩), .pointer (some ⟨w.heap.size + 1 + 1 + 1, 0, none⟩), .pointer (some ⟨w.heap.size, 0, none⟩)] enters_Proven1
      (fun i => provesAt l need now age (ts l i)) (fun i => .int .i64 (ts l i).P) (fun i => .bool (ts l i).Held) (fun i => .int .i64 (ts l i).Tick) A l.length c w4 (by omega) hT4
      (fun i _ W hW => casing_Proven1 (ts l i) l _ _ _ _ need now age A c W (b1.under hW) (b2.under hW) (b3.under hW) (b0.under hW) (hT4.up hW hW.size) (by omega) (by omega) iage inow (itick i)))
  rw [any_get (provesAt l need now age) l _ (fun i hi => by simp [ts, hi])] at HC
  generalize l.any (provesAt l need now age) = res at *
  have HW4 := Lib.hid hw4
  have HB4 := Lib.hid hB4
  clear hw4 b0 b1 b2 b3 hB4 hT4 hT iage inow itick
  generalize l.length = nl at *
  go_enter Try.func32, Try.ntmps32
  go_wp2_with fail
  rw [HW4.out]
  refine HC.out.mono ?_
  rintro e w5 ⟨rfl, hb5⟩
  go_wp2_with fail
  go_ret
  exact ⟨rfl, HB4.out.trans (hb5.mono HB4.out.size)⟩

end Go.Proofs.Ytannipfohicpmaa
