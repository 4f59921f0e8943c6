/- Walks of moonpoolkit: a job made of numbers. -/
import Derived.Test.YtannipfohicpmaaKit
import Derived.Deep.RegionHeld3
import Derived.Deep.AppendLies
import Derived.Deep.DeepCutAuto
import Derived.Deep.RegionLaw
namespace Go.Proofs.Ytannipfohicpmaa
open Go.ChangeShapes Go.WideShapes Go.RowKit Go.Shelf Go.Deep Mpl

structure Sheet where
  Ends : List Int
  Loads : List Int
  Grades : List Int
  Factor : Int
  Over : Int
def SheetV (w : World) (B : Nat) (v : Value) (x : Sheet) : Prop :=
  ∃ AE cE AL cL AG cG, v = .agg #[.slice AE x.Ends.length cE, .slice AL x.Loads.length cL, .slice AG x.Grades.length cG, .int .i64 x.Factor, .int .i64 x.Over] ∧ Ints w B AE x.Ends ∧ Ints w B AL x.Loads ∧ Ints w B AG x.Grades
theorem SheetV.up {w w' : World} {B B' : Nat} {v : Value} {x : Sheet} (h : SheetV w B v x) (hb : Below B w w') (hB : B ≤ B') : SheetV w' B' v x := by
  obtain ⟨AE, cE, AL, cL, AG, cG, rfl, h1, h2, h3⟩ := h
  exact ⟨AE, cE, AL, cL, AG, cG, rfl, h1.up hb hB, h2.up hb hB, h3.up hb hB⟩
structure SheetIn (x : Sheet) : Prop where
  ends : IntsIn x.Ends
  loads : IntsIn x.Loads
  grades : IntsIn x.Grades
  factor : inI64 x.Factor
  over : inI64 x.Over
  ne : x.Ends.length ≤ maxLen
  nl : x.Loads.length ≤ maxLen
  ng : x.Grades.length ≤ maxLen

theorem open_sheet {H : Type} {enc : TypeId × Value → H} {w : World} {base : Nat} {spare : Nat → Bool} {held : Bool} {v : Value} {d : DataW H} {p : List MemPlace} (hv : ∃ cs, v = .agg cs ∧ cs.size = Try.prog.cellsOf 48) (h : DataW.Trod enc Try.prog w base spare held 48 v d p) :
    ∃ x, SheetV w w.heap.size v x ∧ SheetIn x := by
  obtain ⟨cs, rfl, hsz⟩ := hv
  have h2 : cs.size = 5 := hsz.trans (by kernel_rfl)
  obtain ⟨fuel, hf⟩ := h
  obtain ⟨l⟩ := cs
  have hf' : DataW.trod enc Try.prog w base spare held fuel 48 l = some (d, p) := by simpa [Value.cells] using hf
  have h5 : l.length = 5 := by simpa using h2
  obtain ⟨v0, m0, y0, e0, r0⟩ := field_one Try.underlying48 hf' 0 _ rfl (by kernel_rfl) (by simp [h5])
  obtain ⟨v1, m1, y1, e1, r1⟩ := field_one Try.underlying48 hf' 1 _ rfl (by kernel_rfl) (by simp [h5])
  obtain ⟨v2, m2, y2, e2, r2⟩ := field_one Try.underlying48 hf' 2 _ rfl (by kernel_rfl) (by simp [h5])
  obtain ⟨n3, e3, i3⟩ := field_i64 Try.underlying48 hf' 3 _ rfl Try.underlying2 (by kernel_rfl)
  obtain ⟨n4, e4, i4⟩ := field_i64 Try.underlying48 hf' 4 _ rfl Try.underlying2 (by kernel_rfl)
  obtain ⟨AE, cE, lE, rfl, hE1, hE2, hE3, hE4⟩ := open_longs Try.underlying32 Try.underlying2 (by kernel_rfl) r0
  obtain ⟨AL, cL, lL, rfl, hL1, hL2, hL3, hL4⟩ := open_longs Try.underlying32 Try.underlying2 (by kernel_rfl) r1
  obtain ⟨AG, cG, lG, rfl, hG1, hG2, hG3, hG4⟩ := open_longs Try.underlying32 Try.underlying2 (by kernel_rfl) r2
  refine ⟨⟨lE, lL, lG, n3, n4⟩, ⟨AE, cE, AL, cL, AG, cG, ?_, hE3, hL3, hG3⟩, ⟨hE4, hL4, hG4, i3, i4, by show lE.length ≤ maxLen; omega, by show lL.length ≤ maxLen; omega, by show lG.length ≤ maxLen; omega⟩⟩
  match l, h5 with
  | [x0, x1, x2, x3, x4], _ =>
    simp at e0 e1 e2 e3 e4
    rw [e0, e1, e2, e3, e4]

theorem load_job {w : World} {g t : Nat} {a b c d e : Value} (h : Box w g t #[a, b, c, d, e]) : (loadVar 36 ⟨g, 0, none⟩).run Try.prog w = .ok (.agg #[a, b, c, d, e]) w := by
  have q0 := h.cell 0
  have q1 := h.cell 1
  have q2 := h.cell 2
  have q3 := h.cell 3
  have q4 := h.cell 4
  simp only [List.getElem?_toArray, List.getElem?_cons_zero, List.getElem?_cons_succ] at q0 q1 q2 q3 q4
  simp [go_sem, q0, q1, q2, q3, q4]

/-- the three blocks that a job is made in: the sheet, the result, the job -/
structure Trio (w wr : World) (sh : Array Value) (vE vL vG : Value) (f o : Int) : Prop where
  sheet : Box wr w.heap.size 48 sh
  res : Box wr (w.heap.size + 1) 36 #[.slice none 0 0, .slice none 0 0, .slice none 0 0, .int .i64 0, .int .i64 0]
  job : Box wr (w.heap.size + 1 + 1) 36 #[vE, vL, vG, .int .i64 f, .int .i64 o]
  below : Below w.heap.size w wr
theorem Trio.grow {w wr w' : World} {sh : Array Value} {vE vL vG : Value} {f o : Int} {B : Nat} (h : Trio w wr sh vE vL vG f o) (hb : Below B wr w') (hB : w.heap.size + 1 + 1 < B) : Trio w w' sh vE vL vG f o :=
  ⟨h.sheet.below hb (by omega), h.res.below hb (by omega), h.job.below hb hB, h.below.trans (hb.mono (by omega))⟩
theorem Trio.setE {w wr : World} {sh : Array Value} {vE vL vG : Value} {f o : Int} (h : Trio w wr sh vE vL vG f o) (v : Value) : Trio w (wr.setCell ⟨w.heap.size + 1 + 1, 0, none⟩ v) sh v vL vG f o :=
  ⟨h.sheet.far (by simp; omega) _, h.res.far (by simp) _, by simpa using h.job.set_ 0 v, h.below.setCell (p := ⟨w.heap.size + 1 + 1, 0, none⟩) (by simp; omega) _⟩
theorem Trio.setL {w wr : World} {sh : Array Value} {vE vL vG : Value} {f o : Int} (h : Trio w wr sh vE vL vG f o) (v : Value) : Trio w (wr.setCell ⟨w.heap.size + 1 + 1, 1, none⟩ v) sh vE v vG f o :=
  ⟨h.sheet.far (by simp; omega) _, h.res.far (by simp) _, by simpa using h.job.set_ 1 v, h.below.setCell (p := ⟨w.heap.size + 1 + 1, 1, none⟩) (by simp; omega) _⟩
theorem Trio.setG {w wr : World} {sh : Array Value} {vE vL vG : Value} {f o : Int} (h : Trio w wr sh vE vL vG f o) (v : Value) : Trio w (wr.setCell ⟨w.heap.size + 1 + 1, 2, none⟩ v) sh vE vL v f o :=
  ⟨h.sheet.far (by simp; omega) _, h.res.far (by simp) _, by simpa using h.job.set_ 2 v, h.below.setCell (p := ⟨w.heap.size + 1 + 1, 2, none⟩) (by simp; omega) _⟩
theorem Trio.drew {w wr : World} {sh : Array Value} {vE vL vG : Value} {f o : Int} (h : Trio w wr sh vE vL vG f o) : Trio w wr.drew sh vE vL vG f o := ⟨h.sheet, h.res, h.job, h.below.drew⟩

/-- what a job made of numbers is, in memory -/
def MadeV (w : World) (e : Ending) (w' : World) : Prop := (∃ v j, e = .returned v ∧ JobV w' w'.heap.size v j ∧ Made j) ∧ Below w.heap.size w w'

/-- what a round that makes one load leaves -/
def LoadsNext (w wr wx : World) (B : Nat) (sh : Array Value) (vE : Value) (m : Nat) (ls : List LoadC) (f o : Int) : Prop :=
  ∃ (y : LoadC) (vL : Value), (okLine y.s.In = 0 ∧ okLine y.s.Out = 0) ∧ Hid (wx.ownsRow B 26 2 vL (m + 1) ((ls ++ [y]).flatMap loadC)) ∧ Hid (∀ z ∈ ls ++ [y], LoadOwn wx B z) ∧ Hid (∀ {n : Nat} {xs : List Value}, wr.ownsRow (w.heap.size + 1 + 1 + 1) 2 1 vE n xs → (∀ k, vE.ownBlock = some k → k < B) → wx.ownsRow (w.heap.size + 1 + 1 + 1) 2 1 vE n xs) ∧ Hid (Trio w wx sh vE vL (.slice none 0 0) f o) ∧ Hid (wr.heap.size ≤ wx.heap.size)

theorem loadsNext {w wr w5 w6 w7 : World} {B m g7 cap7 c5 c6 : Nat} {A5 A6 : Option Addr} {ks5 ks6 : List Knot} {sh : Array Value} {vE vL : Value} {ls : List LoadC} {f o : Int} {ob : Obj}
    (hB : B ≤ wr.heap.size) (hB3 : w.heap.size + 1 + 1 + 1 ≤ B) (hkn : ∀ y ∈ ls, LoadOwn wr B y)
    (B5 : Below wr.drew.heap.size wr.drew w5) (O5 : w5.ownsRow wr.drew.heap.size 71 2 (.slice A5 ks5.length c5) ks5.length (ks5.flatMap knotC)) (hok5 : okLine ks5 = 0)
    (B6 : Below w5.heap.size w5 w6) (O6 : w6.ownsRow w5.heap.size 71 2 (.slice A6 ks6.length c6) ks6.length (ks6.flatMap knotC)) (hok6 : okLine ks6 = 0)
    (OL : w6.ownsRow B 26 2 vL m (ls.flatMap loadC)) (B7 : Below B w6 w7) (G7 : (w6.alloc ob).grownBy w7 vL.ownBlock) (O7 : w7.ownsRow B 26 2 (.slice (some ⟨g7, 0, none⟩) (m + 1) cap7) (m + 1) (ls.flatMap loadC ++ loadC ⟨A5, c5, A6, c6, ⟨ks5, ks6⟩⟩)) (T7 : Trio w w7 sh vE vL (.slice none 0 0) f o) :
    LoadsNext w wr (w7.setCell ⟨w.heap.size + 1 + 1, 1, none⟩ (.slice (some ⟨g7, 0, none⟩) (m + 1) cap7)) B sh vE m ls f o := by
  have hb06 : Below wr.heap.size wr w6 := (Below.refl _ wr).drew.trans (B5.trans (B6.mono B5.size))
  have hall : ∀ y ∈ ls ++ [⟨A5, c5, A6, c6, ⟨ks5, ks6⟩⟩], LoadOwn w6 B y := by
    intro y hy
    rw [List.mem_append, List.mem_singleton] at hy
    rcases hy with hy | rfl
    · exact ⟨own_under (hkn y hy).1 hb06, own_under (hkn y hy).2 hb06⟩
    · exact ⟨own_under (own_le O5 hB) B6, own_le O6 (Nat.le_trans hB B5.size)⟩
  refine ⟨⟨A5, c5, A6, c6, ⟨ks5, ks6⟩⟩, .slice (some ⟨g7, 0, none⟩) (m + 1) cap7, ⟨hok5, hok6⟩, ?_, ?_, ?_, T7.setL _, ?_⟩
  · have := own_far (p := ⟨w.heap.size + 1 + 1, 1, none⟩) O7 (by simp; omega) (.slice (some ⟨g7, 0, none⟩) (m + 1) cap7)
    unfold Hid
    rw [List.flatMap_append]
    simpa using this
  · intro y hy
    have hy' := hall y hy
    exact ⟨own_far (p := ⟨w.heap.size + 1 + 1, 1, none⟩) (own_other (hy'.1.alloc _) (OL.alloc _) (by decide) G7) (by simp; omega) _, own_far (p := ⟨w.heap.size + 1 + 1, 1, none⟩) (own_other (hy'.2.alloc _) (OL.alloc _) (by decide) G7) (by simp; omega) _⟩
  · intro n xs h hl
    exact own_far (p := ⟨w.heap.size + 1 + 1, 1, none⟩) (own_below (own_under h hb06) hl B7) (by simp) _
  · have h1 := B7.size
    have h2 := hb06.size
    simp [Hid]
    omega

theorem job_final {w wr : World} {sh : Array Value} {ae al ag : Option Addr} {k m q ce cl cg b1 b2 : Nat} {f o en : Int} {es : List Int} {ls : List LoadC} {gs : List Grade}
    (T : Trio w wr sh (.slice ae k ce) (.slice al m cl) (.slice ag q cg) f o) (OE : wr.ownsRow (w.heap.size + 1 + 1 + 1) 2 1 (.slice ae k ce) k (es.map (Value.int .i64)))
    (OL : wr.ownsRow b1 26 2 (.slice al m cl) m (ls.flatMap loadC)) (OK : ∀ y ∈ ls, LoadOwn wr b1 y) (OG : wr.ownsRow b2 63 5 (.slice ag q cg) q (gs.flatMap gradeC)) (h1 : w.heap.size + 1 + 1 + 1 ≤ b1) (h2 : w.heap.size + 1 + 1 + 1 ≤ b2)
    (he : EndsSo es en) (hel : es.length = k) (hk1 : 1 ≤ k) (hk3 : k ≤ 3) (hls : ls.length = m) (hm3 : m ≤ 3) (hok : ∀ y ∈ ls, okLine y.s.In = 0 ∧ okLine y.s.Out = 0) (hgl : gs.length = q) (hq1 : 1 ≤ q) (hq4 : q ≤ 4) (hg : ∀ i, i < gs.length → fairGrade (gd gs i) = true)
    (hf1 : 1000 ≤ f) (hf2 : f ≤ 1500) (ho1 : 0 ≤ o) (ho2 : o ≤ 20000000) :
    Box (((((wr.setCell ⟨w.heap.size + 1, 0, none⟩ (.slice ae k ce)).setCell ⟨w.heap.size + 1, 1, none⟩ (.slice al m cl)).setCell ⟨w.heap.size + 1, 2, none⟩ (.slice ag q cg)).setCell ⟨w.heap.size + 1, 3, none⟩ (.int .i64 f)).setCell ⟨w.heap.size + 1, 4, none⟩ (.int .i64 o)) (w.heap.size + 1) 36 #[.slice ae k ce, .slice al m cl, .slice ag q cg, .int .i64 f, .int .i64 o] ∧
    MadeV w (.returned (.agg #[.slice ae k ce, .slice al m cl, .slice ag q cg, .int .i64 f, .int .i64 o])) (((((wr.setCell ⟨w.heap.size + 1, 0, none⟩ (.slice ae k ce)).setCell ⟨w.heap.size + 1, 1, none⟩ (.slice al m cl)).setCell ⟨w.heap.size + 1, 2, none⟩ (.slice ag q cg)).setCell ⟨w.heap.size + 1, 3, none⟩ (.int .i64 f)).setCell ⟨w.heap.size + 1, 4, none⟩ (.int .i64 o)) := by
  have far5 : ∀ {base e size : Nat} {v : Value} {n : Nat} {xs : List Value}, wr.ownsRow base e size v n xs → w.heap.size + 1 + 1 + 1 ≤ base → (((((wr.setCell ⟨w.heap.size + 1, 0, none⟩ (.slice ae k ce)).setCell ⟨w.heap.size + 1, 1, none⟩ (.slice al m cl)).setCell ⟨w.heap.size + 1, 2, none⟩ (.slice ag q cg)).setCell ⟨w.heap.size + 1, 3, none⟩ (.int .i64 f)).setCell ⟨w.heap.size + 1, 4, none⟩ (.int .i64 o)).ownsRow base e size v n xs :=
    fun h hb => own_far (own_far (own_far (own_far (own_far h (by simp; omega) _) (by simp; omega) _) (by simp; omega) _) (by simp; omega) _) (by simp; omega) _
  have hbox := ((((T.res.set_ 0 (.slice ae k ce)).set_ 1 (.slice al m cl)).set_ 2 (.slice ag q cg)).set_ 3 (.int .i64 f)).set_ 4 (.int .i64 o)
  have hbel := ((((T.below.setCell (p := ⟨w.heap.size + 1, 0, none⟩) (by simp) (.slice ae k ce)).setCell (p := ⟨w.heap.size + 1, 1, none⟩) (by simp) (.slice al m cl)).setCell (p := ⟨w.heap.size + 1, 2, none⟩) (by simp) (.slice ag q cg)).setCell (p := ⟨w.heap.size + 1, 3, none⟩) (by simp) (.int .i64 f)).setCell (p := ⟨w.heap.size + 1, 4, none⟩) (by simp) (.int .i64 o)
  refine ⟨by simpa using hbox, ?_⟩
  have OE' := far5 OE (Nat.le_refl _)
  have OL' := far5 OL h1
  have OG' := far5 OG h2
  have OK' : ∀ y ∈ ls, LoadOwn _ b1 y := fun y hy => ⟨far5 (OK y hy).1 h1, far5 (OK y hy).2 h1⟩
  clear far5 hbox OE OL OG OK T
  generalize (((((wr.setCell ⟨w.heap.size + 1, 0, none⟩ (.slice ae k ce)).setCell ⟨w.heap.size + 1, 1, none⟩ (.slice al m cl)).setCell ⟨w.heap.size + 1, 2, none⟩ (.slice ag q cg)).setCell ⟨w.heap.size + 1, 3, none⟩ (.int .i64 f)).setCell ⟨w.heap.size + 1, 4, none⟩ (.int .i64 o)) = W at *
  obtain ⟨a1, c1, v1, hc1, I1⟩ := Ints.own OE'
  obtain ⟨a2, c2, v2, hc2, I2⟩ := Loads.own OL' OK'
  obtain ⟨a3, c3, v3, hc3, I3⟩ := Grades.own OG'
  rw [v1, v2, v3]
  refine ⟨⟨_, ⟨es, ls.map LoadC.s, gs, f, o⟩, rfl, ⟨a1, c1, a2, c2, a3, c3, rfl, hc1, I1, I2, I3⟩, ?_⟩, hbel⟩
  refine made_of he (by show 0 < es.length; omega) (by show es.length ≤ 3; omega) (by show (ls.map LoadC.s).length ≤ 3; simp; omega) ?_ (by show 0 < gs.length; omega) (by show gs.length ≤ 4; omega) hg hf1 hf2 ho1 ho2
  intro i hi
  have hi' : i < ls.length := by simpa using hi
  have : ld (ls.map LoadC.s) i = ls[i].s := by simp [ld, hi']
  show okLine (ld (ls.map LoadC.s) i).In = 0 ∧ okLine (ld (ls.map LoadC.s) i).Out = 0
  rw [this]
  exact hok _ (List.getElem_mem hi')

set_option maxHeartbeats 8000000 in
set_option maxRecDepth 100000 in
theorem kit_Job (x : Sheet) (v0 : Value) (w : World) (hv : SheetV w w.heap.size v0 x) (hin : SheetIn x) :
    Calls Try.prog 30 #[v0] w (MadeV w) := by
  obtain ⟨AE, cE, AL, cL, AG, cG, rfl, hE, hL, hG⟩ := hv
  have HPE := Lib.hid (fun W (hW : Below w.heap.size w W) k (hk : k ≤ 1000) => kit_pick x.Ends AE cE k W (hE.up hW hW.size) hin.ends hk hin.ne)
  have HPG := Lib.hid (fun W (hW : Below w.heap.size w W) k (hk : k ≤ 1000) => kit_pick x.Grades AG cG k W (hG.up hW hW.size) hin.grades hk hin.ng)
  have HPL := Lib.hid (fun W (hW : Below w.heap.size w W) k (hk : k ≤ 100) => kit_pressures x.Loads AL cL k W (hL.up hW hW.size) hin.loads hk hin.nl)
  have hbE := Lib.hid (kitPick_bounds x.Ends)
  have hbG := Lib.hid (kitPick_bounds x.Grades)
  have HM1 := Lib.hid (fun W => kit_Mod64 x.Factor 500 W hin.factor (by omega) (by omega))
  have HM2 := Lib.hid (fun W => kit_Mod64 x.Over 20000000 W hin.over (by omega) (by omega))
  have n1 := hin.ne
  have n2 := hin.nl
  have n3 := hin.ng
  unfold maxLen at n1 n2 n3
  clear hE hL hG hin
  have m1 : 0 ≤ x.Factor % 500 ∧ x.Factor % 500 ≤ 499 := by omega
  have m2 : 0 ≤ x.Over % 20000000 ∧ x.Over % 20000000 ≤ 19999999 := by omega
  generalize x.Factor % 500 = f1 at *
  generalize x.Over % 20000000 = o1 at *
  generalize kitPick x.Ends = fE at *
  generalize kitPick x.Grades = fG at *
  generalize x.Ends.length = nE at *
  generalize x.Loads.length = nL at *
  generalize x.Grades.length = nG at *
  obtain ⟨m11, m12⟩ := m1
  obtain ⟨m21, m22⟩ := m2
  obtain ⟨w0, hw0⟩ : ∃ w0, ((w.alloc (.cells #[.slice AE nE cE, .slice AL nL cL, .slice AG nG cG, .int .i64 x.Factor, .int .i64 x.Over] 48)).alloc (.cells #[.slice none 0 0, .slice none 0 0, .slice none 0 0, .int .i64 0, .int .i64 0] 36)) = w0 := ⟨_, rfl⟩
  have b0 : Box w0 w.heap.size 48 #[.slice AE nE cE, .slice AL nL cL, .slice AG nG cG, .int .i64 x.Factor, .int .i64 x.Over] := by rw [← hw0]; exact (Box.new w _ _ rfl).alloc _
  have b1 : Box w0 (w.heap.size + 1) 36 #[.slice none 0 0, .slice none 0 0, .slice none 0 0, .int .i64 0, .int .i64 0] := by rw [← hw0]; exact Box.new _ _ _ (by simp)
  have hB0 : Below w.heap.size w w0 := by rw [← hw0]; exact (by repeat (first | exact Below.refl _ _ | assumption | refine Below.setCell ?_ (by first | (simp; done) | (simp; omega)) _ | refine belowDrewN ?_ _ | refine Below.drew ?_ | refine Below.alloc ?_ (by first | (simp; done) | (simp; omega)) _))
  have hs0 : w0.heap.size = w.heap.size + 1 + 1 := by rw [← hw0]; simp
  have HS0 := Lib.hid hs0
  have HW0 := Lib.hid hw0
  have Hb0 := Lib.hid b0
  have Hb1 := Lib.hid b1
  have HB0 := Lib.hid hB0
  have g3 := b0.cell 3
  have g4 := b0.cell 4
  simp only [List.getElem?_toArray, List.getElem?_cons_zero, List.getElem?_cons_succ] at g3 g4
  have hlt0 := b0.lt
  clear hw0 hs0 b0 b1 hB0
  have y1 : IntKind.i64.wrap (1000 + f1) = 1000 + f1 := IntWalk.i64_in _ (by omega)
  obtain ⟨mnE, hmE⟩ : ∃ c : Nat, c = min nE 3 := ⟨_, rfl⟩
  obtain ⟨mnG, hmG⟩ : ∃ c : Nat, c = min nG 4 := ⟨_, rfl⟩
  obtain ⟨cntE, hcE⟩ : ∃ c : Nat, c = max 1 mnE := ⟨_, rfl⟩
  obtain ⟨cntG, hcG⟩ : ∃ c : Nat, c = max 1 mnG := ⟨_, rfl⟩
  have HE1 := Lib.hid (show (if (3 : Int) < (nE : Int) then (3 : Int) else (nE : Int)) = (mnE : Int) by split <;> omega)
  have HE2 := Lib.hid (show (if (1 : Int) < (mnE : Int) then (mnE : Int) else (1 : Int)) = (cntE : Int) by split <;> omega)
  have HG1 := Lib.hid (show (if (4 : Int) < (nG : Int) then (4 : Int) else (nG : Int)) = (mnG : Int) by split <;> omega)
  have HG2 := Lib.hid (show (if (1 : Int) < (mnG : Int) then (mnG : Int) else (1 : Int)) = (cntG : Int) by split <;> omega)
  have cE1 : 1 ≤ cntE := by omega
  have cE3 : cntE ≤ 3 := by omega
  have cG1 : 1 ≤ cntG := by omega
  have cG4 : cntG ≤ 4 := by omega
  clear hcE hcG hmE hmG
  go_enter Try.func30, Try.ntmps30
  go_upto_region 1 with fail
  rw [HW0.out]
  go_cut [3] (fun s3 wx => s3 = .pointer (some ⟨w0.heap.size, 0, none⟩) ∧ Hid (wx = (w0.alloc (.cells #[.slice none 0 0, .slice none 0 0, .slice none 0 0, .int .i64 (1000 + f1), .int .i64 o1] 36)).drew))
  case first =>
    go_region_held3 (fun w' => w'.cell? ⟨w.heap.size, 3, none⟩ = some (.int .i64 x.Factor) ∧ w'.cell? ⟨w.heap.size, 4, none⟩ = some (.int .i64 x.Over)) (go_keep)
      (first
        | (go_at_call 34; (with_reducible refine (HM1.out _).mono ?_); rintro e w' ⟨rfl, rfl⟩)
        | (go_at_call 34; (with_reducible refine (HM2.out _).mono ?_); rintro e w' ⟨rfl, rfl⟩))
    all_goals
      go_wp2_with fail
      go_meet
      exact ⟨rfl, rfl⟩
  case rest =>
    obtain ⟨rfl, hwc⟩ := hcut
    have T0 : Hid (Trio w wc #[.slice AE nE cE, .slice AL nL cL, .slice AG nG cG, .int .i64 x.Factor, .int .i64 x.Over] (.slice none 0 0) (.slice none 0 0) (.slice none 0 0) (1000 + f1) o1) := by
      unfold Hid
      rw [hwc.out]
      exact ⟨(Hb0.out.alloc _).drew, (Hb1.out.alloc _).drew, (Box.new w0 _ _ HS0.out.symm).drew, (HB0.out.alloc HB0.out.size _).drew⟩
    have hsc : w.heap.size + 1 + 1 + 1 ≤ wc.heap.size := by rw [hwc.out]; simp; rw [HS0.out]; omega
    rw [HS0.out]
    clear hwc y1 g3 g4 hlt0 HM1 HM2 Hb0 Hb1 HW0 HS0
    obtain ⟨i0, hi0, hz0, hz1, hz2⟩ := info_parts info_int64
    go_wp2_with fail
    go_loopw [4, 5] (fun s4 s5 wr => ∃ (k : Nat) (en : Int) (es : List Int) (vE : Value), k ≤ cntE ∧ s5 = .int .i64 k ∧ s4 = .int .i64 en ∧ Hid (es.length = k ∧ EndsSo es en) ∧ Hid (wr.ownsRow (w.heap.size + 1 + 1 + 1) 2 1 vE k (es.map (Value.int .i64))) ∧ Hid (Trio w wr #[.slice AE nE cE, .slice AL nL cL, .slice AG nG cG, .int .i64 x.Factor, .int .i64 x.Over] vE (.slice none 0 0) (.slice none 0 0) (1000 + f1) o1) ∧ Hid (w.heap.size + 1 + 1 + 1 ≤ wr.heap.size)) (fun _ s5 _ => cntE - (intOf s5).toNat)
    case atStart => exact ⟨0, 0, [], .slice none 0 0, Nat.zero_le _, rfl, rfl, ⟨rfl, EndsSo.nil⟩, World.ownsRow_nil _ _ _ _, T0, hsc⟩
    case round =>
      obtain ⟨k, en, es, vE, hk, rfl, rfl, hes, hown, hT, hsz⟩ := hrel
      have g0 := hT.out.sheet.cell 0
      simp only [List.getElem?_toArray, List.getElem?_cons_zero] at g0
      have e1 := HE1.out
      have e2 := HE2.out
      by_cases hlt : k < cntE
      · obtain ⟨r1, r2⟩ := hbE.out k
        have hen := hes.out.2.lo
        have hen2 := hes.out.2.hi
        rw [hes.out.1] at hen2
        have g1 := hT.out.job.cell 0
        have g2 := hT.out.job.frozen 0
        simp only [List.getElem?_toArray, List.getElem?_cons_zero] at g1
        have hjlt := hT.out.job.lt
        go_wp2_with fail
        refine (HPE.out wr hT.out.below k (by omega)).mono ?_
        rintro e w' ⟨rfl, rfl⟩
        generalize fE k = d at *
        clear e1 e2
        go_wp2_with (at_builtin; refine wpList_append_own _ rfl _ _ 32 rfl (w.heap.size + 1 + 1 + 1) 2 i0 (.int .i64 0) 1 8 Try.underlying32 hi0 hz0 hz1 hz2 rfl (by decide) vE k (es.map (Value.int .i64)) rfl (hown.out.alloc _) ⟨wr.heap.size, 0, none⟩ 1 1 [.int .i64 (en + 1 + d % 150000)] rfl rfl ?_ ?_ ?_ ?_ ?_ ?_)
        · exact cells_new wr [.int .i64 (en + 1 + d % 150000)] 2
        · simp [Value.oneCell']
        · unfold maxLen; omega
        · omega
        · have := hsz.out; simp; omega
        intro v' w1 hown1 hg1 _
        have hB1 := Lib.hid (below_grown ((Below.refl (w.heap.size + 1 + 1 + 1) wr).alloc hsz.out _) (hown.out.alloc _) hg1 (by have := hsz.out; simp; omega))
        obtain ⟨A2, c2, rfl, _, _⟩ := own_form hown1
        have HO1 := Lib.hid hown1
        have hT1 := hT.out.grow hB1.out (by omega)
        have HT1 := Lib.hid hT1
        clear hown1 hg1 g1 g2 g0 hjlt
        have g1 := hT1.job.cell 0
        have g2 := hT1.job.frozen 0
        simp only [List.getElem?_toArray, List.getElem?_cons_zero] at g1
        clear hT1
        go_wp2_with fail
        go_roundw
        case rel =>
          refine ⟨k + 1, _, es ++ [en + 1 + d % 150000], .slice A2 (k + 1) c2, hlt, by go_num, rfl, ⟨by rw [List.length_append, hes.out.1]; rfl, hes.out.2.snoc (by omega) (by omega)⟩, ?_, HT1.out.setE _, ?_⟩
          · have := own_far (p := ⟨w.heap.size + 1 + 1, 0, none⟩) HO1.out (by simp) (.slice A2 (k + 1) c2)
            unfold Hid
            rw [List.map_append]
            simpa using this
          · have h1 := hB1.out.size
            have h2 := hsz.out
            simp [Hid]
            omega
        case measure => simp [intOf]; omega
      · obtain rfl : k = cntE := by omega
        have ENDS := Lib.hid (show ∃ en, EndsSo es en from ⟨en, hes.out.2⟩)
        have HEL := Lib.hid hes.out.1
        go_wp2_with fail
        clear e1 e2 g0 hes HE1 HE2 hbE HPE hlt hk
        obtain ⟨i1, hi1, hy0, hy1, hy2⟩ := info_parts info_Stress
        obtain ⟨wo, hwo⟩ : ∃ wo : World, wo = wr := ⟨_, rfl⟩
        have hslt := Lib.hid (own_lt hown.out)
        obtain ⟨mL, hmL⟩ : ∃ c : Nat, c = min nL 3 := ⟨_, rfl⟩
        have HML := Lib.hid hmL
        have mL3 : mL ≤ 3 := by omega
        clear hmL
        rw [← hwo] at hown hT hsz hslt
        rw [← hwo]
        clear hwo
        have hwsz := hsz.out
        go_loopw [6] (fun s6 wr => ∃ (m : Nat) (ls : List LoadC) (vL : Value), m ≤ mL ∧ s6 = .int .i64 m ∧ Hid (ls.length = m ∧ ∀ y ∈ ls, okLine y.s.In = 0 ∧ okLine y.s.Out = 0) ∧ Hid (wr.ownsRow wo.heap.size 26 2 vL m (ls.flatMap loadC)) ∧ Hid (∀ y ∈ ls, LoadOwn wr wo.heap.size y) ∧ Hid (wr.ownsRow (w.heap.size + 1 + 1 + 1) 2 1 vE k (es.map (Value.int .i64))) ∧ Hid (Trio w wr #[.slice AE nE cE, .slice AL nL cL, .slice AG nG cG, .int .i64 x.Factor, .int .i64 x.Over] vE vL (.slice none 0 0) (1000 + f1) o1) ∧ Hid (wo.heap.size ≤ wr.heap.size)) (fun s6 _ => mL - (intOf s6).toNat)
        case atStart => exact ⟨0, [], .slice none 0 0, Nat.zero_le _, rfl, ⟨rfl, fun y hy => absurd hy (by simp)⟩, World.ownsRow_nil _ _ _ _, (fun y hy => absurd hy (by simp)), hown, hT, Nat.le_refl _⟩
        case round =>
          obtain ⟨m, ls, vL, hm, rfl, hls, hownL, hkn, hownE, hT2, hsz2⟩ := hrel
          have g0 := hT2.out.sheet.cell 1
          simp only [List.getElem?_toArray, List.getElem?_cons_zero, List.getElem?_cons_succ] at g0
          by_cases hlt : m < mL
          · have d1 : decide ((m : Int) < (nL : Int)) = true := decide_eq_true (by have := HML.out; omega)
            have d2 : decide ((m : Int) < 3) = true := decide_eq_true (by omega)
            have d3 : decide (m < nL) = true := decide_eq_true (by have := HML.out; omega)
            have d4 : m < nL := by have := HML.out; omega
            have hm3 : m < 3 := by omega
            go_wp2_with fail
            clear d1 d2 d3 d4
            have hp1 := fun W hW => HPL.out W hW (2 * m) (by omega)
            have hp2 := fun W hW => HPL.out W hW (2 * m + 1) (by omega)
            rw [show ((2 * m : Nat) : Int) = 2 * (m : Int) by omega] at hp1
            rw [show ((2 * m + 1 : Nat) : Int) = 2 * (m : Int) + 1 by omega] at hp2
            have HP1 := Lib.hid hp1
            have HP2 := Lib.hid hp2
            clear hp1 hp2
            have hwr2 := hsz2.out
            have j1 := hT2.out.job.cell 1
            have j2 := hT2.out.job.frozen 1
            have jlt := hT2.out.job.lt
            simp only [List.getElem?_toArray, List.getElem?_cons_zero, List.getElem?_cons_succ] at j1
            have z1 : IntKind.i64.wrap (2 * (m : Int)) = 2 * (m : Int) := IntWalk.i64_in _ (by omega)
            have z2 : IntKind.i64.wrap (2 * (m : Int) + 1) = 2 * (m : Int) + 1 := IntWalk.i64_in _ (by omega)
            go_region_law (first
              | (refine step_append_lies _ (by rfl) _ _ _ (by rfl) wo.heap.size 26 i1 _ 2 48 Try.underlying33 hi1 hy0 hy1 hy2 rfl (by omega) vL m (ls.flatMap loadC) (by rfl) (OL.out.alloc _) ⟨w6.heap.size, 0, none⟩ 1 1 (loadC ⟨A5, c5, A6, c6, ⟨ks5, ks6⟩⟩) (by rfl) (by rfl) (cells_new w6 (loadC ⟨A5, c5, A6, c6, ⟨ks5, ks6⟩⟩) 26) (by simp [loadC, Value.oneCell']) (by omega) (by unfold maxLen; omega) (by omega) (by simp; omega) (w6.heap.size + 1) (by simp) ?_; intro g7 cap7 w7 hown7 hg7 hat7 hlt7; have B7 := Lib.hid (below_grown ((Below.refl wo.heap.size w6).alloc hs6 _) (OL.out.alloc _) hg7 (by simp; omega)); have T7 := Lib.hid (T6.out.grow B7.out (by omega)); have t0 := T7.out.sheet.cell 1; have t1 := T7.out.job.cell 1; have t2 := T7.out.job.frozen 1; simp only [List.getElem?_toArray, List.getElem?_cons_zero, List.getElem?_cons_succ] at t0 t1; have G7 := Lib.hid hg7; have O7 := Lib.hid hown7; clear hg7 hown7)
              | (go_simp; go_at_call 57; (with_reducible refine (HP1.out _ hT2.out.below.drew).mono ?_); rintro e w5 ⟨⟨A5, c5, ks5, rfl, ho5, hok5⟩, hb5⟩; have T5 := Lib.hid (hT2.out.drew.grow hb5 (by have := hT2.out.job.lt; simpa using this)); have O5 := Lib.hid ho5; have B5 := Lib.hid hb5; have x0 := T5.out.sheet.cell 1; have x1 := T5.out.job.cell 1; simp only [List.getElem?_toArray, List.getElem?_cons_zero, List.getElem?_cons_succ] at x0 x1; clear ho5 hb5)
              | (go_simp; go_at_call 57; (with_reducible refine (HP2.out _ T5.out.below).mono ?_); rintro e w6 ⟨⟨A6, c6, ks6, rfl, ho6, hok6⟩, hb6⟩; have T6 := Lib.hid (T5.out.grow hb6 T5.out.job.lt); have O6 := Lib.hid ho6; have B6 := Lib.hid hb6; have y0 := T6.out.sheet.cell 1; have y1 := T6.out.job.cell 1; have y3 := T6.out.sheet.lt; have y4 := T6.out.job.lt; simp only [List.getElem?_toArray, List.getElem?_cons_zero, List.getElem?_cons_succ] at y0 y1; clear ho6 hb6; have OL := Lib.hid (own_under (own_under hownL.out.drew B5.out) B6.out); have hs6 : wo.heap.size ≤ w6.heap.size := Nat.le_trans hwr2 (Nat.le_trans B5.out.size B6.out.size))
              | fail)
            all_goals
              have NX := loadsNext hwr2 hwsz hkn.out B5.out O5.out hok5 B6.out O6.out hok6 OL.out B7.out G7.out O7.out T7.out
              clear x0 x1 y0 y1 y3 y4 t0 t1 t2 g0 j1 j2 jlt z1 z2 HP1 HP2
              go_wp2_with fail
              go_roundw
              case rel =>
                obtain ⟨y, vL', hok, O8, OK8, OE8, T8, S8⟩ := NX
                refine ⟨m + 1, ls ++ [y], vL', hlt, by go_num, ⟨by rw [List.length_append, hls.out.1]; rfl, ?_⟩, O8, OK8, OE8.out hownE.out hslt.out, T8, Nat.le_trans hwr2 S8.out⟩
                intro z hz
                rw [List.mem_append, List.mem_singleton] at hz
                rcases hz with hz | rfl
                · exact hls.out.2 z hz
                · exact hok
              case measure => simp [intOf]; omega
          · obtain rfl : m = mL := by omega
            clear hlt hm
            have LOADS := Lib.hid hls.out
            have HL3 := Lib.hid hT2.out
            obtain ⟨i2, hi2, hx0, hx1, hx2⟩ := info_parts info_Grade
            have hltL := Lib.hid (own_lt hownL.out)
            have hltE := Lib.hid (own_lt hownE.out)
            have hltK := Lib.hid (show ∀ y ∈ ls, (∀ k, (Value.slice y.AI y.s.In.length y.cI).ownBlock = some k → k < wr.heap.size) ∧ (∀ k, (Value.slice y.AO y.s.Out.length y.cO).ownBlock = some k → k < wr.heap.size) from fun y hy => ⟨own_lt (hkn.out y hy).1, own_lt (hkn.out y hy).2⟩)
            have hwr3 : w.heap.size + 1 + 1 + 1 ≤ wr.heap.size := by have := hsz2.out; omega
            have hnn : ¬ (m < nL ∧ m < 3) := by have := HML.out; omega
            clear hT hown hls
            have e1 := HG1.out
            have e2 := HG2.out
            obtain ⟨wp, hwp⟩ : ∃ wp : World, wp = wr := ⟨_, rfl⟩
            rw [← hwp] at hownL hkn hownE hltL hltE hltK hwr3 HL3 g0
            rw [← hwp]
            clear hwp hT2 hsz2
            by_cases hn : m < nL
            · have d1 : decide (m < nL) = true := decide_eq_true hn
              have d2 : decide ((m : Int) < 3) = false := decide_eq_false (by omega)
              go_wp2_with fail
              clear hn hnn g0
              go_loopw [7] (fun s7 wr => ∃ (q : Nat) (gs : List Grade) (vG : Value), q ≤ cntG ∧ s7 = .int .i64 q ∧ Hid (gs.length = q ∧ ∀ i, i < gs.length → fairGrade (gd gs i) = true) ∧ Hid (wr.ownsRow wp.heap.size 63 5 vG q (gs.flatMap gradeC)) ∧ Hid (Trio w wr #[.slice AE nE cE, .slice AL nL cL, .slice AG nG cG, .int .i64 x.Factor, .int .i64 x.Over] vE vL vG (1000 + f1) o1) ∧ Hid (Below (w.heap.size + 1 + 1) w wr → True) ∧ Hid (wp.heap.size ≤ wr.heap.size) ∧ Hid (∀ k, w.heap.size + 1 + 1 < k → k < wp.heap.size → wr.heap[k]? = wp.heap[k]?)) (fun s7 _ => cntG - (intOf s7).toNat)
              case atStart => exact ⟨0, [], .slice none 0 0, Nat.zero_le _, rfl, ⟨rfl, fun i hi => absurd hi (by simp)⟩, World.ownsRow_nil _ _ _ _, HL3, (fun _ => trivial), Nat.le_refl _, fun _ _ _ => rfl⟩
              case round =>
                obtain ⟨q, gs, vG, hq, rfl, hgs, hownG, hT3, _, hsz3, hkeep⟩ := hrel
                have g0 := hT3.out.sheet.cell 2
                simp only [List.getElem?_toArray, List.getElem?_cons_zero, List.getElem?_cons_succ] at g0
                by_cases hlt : q < cntG
                · obtain ⟨r1, r2⟩ := hbG.out q
                  have j1 := hT3.out.job.cell 2
                  have j2 := hT3.out.job.frozen 2
                  have jlt := hT3.out.job.lt
                  simp only [List.getElem?_toArray, List.getElem?_cons_zero, List.getElem?_cons_succ] at j1
                  have hs3 := hsz3.out
                  go_wp2_with fail
                  refine (HPG.out wr hT3.out.below q (by omega)).mono ?_
                  rintro e w' ⟨rfl, rfl⟩
                  generalize fG q = d at *
                  have hmg : Hid (gradeC (madeGrade d) = [.int .i64 (d % 3000000000), .int .i64 (d / 5 % 3000000000), .int .i64 (1 + d / 7 % 200000000), .int .i64 (d / 11 % 400), .int .i64 (d / 13 % 20)]) := rfl
                  go_wp2_with (at_builtin; refine wpList_append_own _ rfl _ _ 34 rfl wp.heap.size 63 i2 (.agg #[.int .i64 0, .int .i64 0, .int .i64 0, .int .i64 0, .int .i64 0]) 5 40 Try.underlying34 hi2 hx0 hx1 hx2 rfl (by decide) vG q (gs.flatMap gradeC) rfl (hownG.out.alloc _) ⟨wr.heap.size, 0, none⟩ 1 1 (gradeC (madeGrade d)) rfl rfl ?_ ?_ ?_ ?_ ?_ ?_)
                  · exact cells_new wr (gradeC (madeGrade d)) 63
                  · simp [gradeC, Value.oneCell']
                  · unfold maxLen; omega
                  · omega
                  · simp; omega
                  intro v' w1 hown1 hg1 _
                  have hB1 := Lib.hid (below_grown ((Below.refl wp.heap.size wr).alloc hs3 _) (hownG.out.alloc _) hg1 (by simp; omega))
                  obtain ⟨A2, c2, rfl, _, _⟩ := own_form hown1
                  have HO1 := Lib.hid hown1
                  have hT1 := hT3.out.grow hB1.out (by omega)
                  have HT1 := Lib.hid hT1
                  clear hown1 hg1 j1 j2 g0 jlt
                  have j1 := hT1.job.cell 2
                  have j2 := hT1.job.frozen 2
                  simp only [List.getElem?_toArray, List.getElem?_cons_zero, List.getElem?_cons_succ] at j1
                  clear hT1
                  go_wp2_with fail
                  go_roundw
                  case rel =>
                    refine ⟨q + 1, gs ++ [madeGrade d], .slice A2 (q + 1) c2, hlt, by go_num, ⟨by rw [List.length_append, hgs.out.1]; rfl, gd_snoc gs _ hgs.out.2 (madeGrade_fair d)⟩, ?_, HT1.out.setG _, (fun _ => trivial), ?_, ?_⟩
                    · have := own_far (p := ⟨w.heap.size + 1 + 1, 2, none⟩) HO1.out (by simp; omega) (.slice A2 (q + 1) c2)
                      unfold Hid
                      rw [List.flatMap_append]
                      simpa using this
                    · have h1 := hB1.out.size
                      simp [Hid]
                      omega
                    · intro k hk1 hk2
                      exact ((Below.heap_setCell _ _ _ k (by simp; omega)).trans (hB1.out.block k hk2)).trans (hkeep.out k hk1 hk2)
                  case measure => simp [intOf]; omega
                · obtain rfl : q = cntG := by omega
                  have k0 := hT3.out.job.cell 0
                  have k1 := hT3.out.job.cell 1
                  have k2 := hT3.out.job.cell 2
                  have k3 := hT3.out.job.cell 3
                  have k4 := hT3.out.job.cell 4
                  have l0 := hT3.out.res.cell 0
                  have l1 := hT3.out.res.cell 1
                  have l2 := hT3.out.res.cell 2
                  have l3 := hT3.out.res.cell 3
                  have l4 := hT3.out.res.cell 4
                  have f0 := hT3.out.res.frozen 0
                  have f1' := hT3.out.res.frozen 1
                  have f2 := hT3.out.res.frozen 2
                  have f3 := hT3.out.res.frozen 3
                  have f4 := hT3.out.res.frozen 4
                  simp only [List.getElem?_toArray, List.getElem?_cons_zero, List.getElem?_cons_succ] at k0 k1 k2 k3 k4 l0 l1 l2 l3 l4
                  have hkeepO : ∀ {base e size : Nat} {v : Value} {n : Nat} {xs : List Value}, wp.ownsRow base e size v n xs → w.heap.size + 1 + 1 + 1 ≤ base → (∀ k, v.ownBlock = some k → k < wp.heap.size) → wr.ownsRow base e size v n xs := by
                    rintro base e size v n xs ⟨h1, h2⟩ hb hl
                    refine ⟨h1, ?_⟩
                    rcases h2 with h2 | ⟨g, cap, cur, hv, hg, hh, r⟩
                    · exact .inl h2
                    · exact .inr ⟨g, cap, cur, hv, hg, (hkeep.out g (by omega) (hl g (by rw [hv]; rfl))).trans hh, r⟩
                  have OE := Lib.hid (hkeepO hownE.out (Nat.le_refl _) hltE.out)
                  have OL := Lib.hid (hkeepO hownL.out hwsz hltL.out)
                  have OK := Lib.hid (show ∀ y ∈ ls, LoadOwn wr wo.heap.size y from fun y hy => ⟨hkeepO (hkn.out y hy).1 hwsz (hltK.out y hy).1, hkeepO (hkn.out y hy).2 hwsz (hltK.out y hy).2⟩)
                  have hwp3 : w.heap.size + 1 + 1 + 1 ≤ wp.heap.size := hwr3
                  clear hkeepO
                  obtain ⟨ae, ce, rfl, _, _⟩ := own_form OE.out
                  obtain ⟨al, cl, rfl, _, _⟩ := own_form OL.out
                  obtain ⟨ag, cg, rfl, _, _⟩ := own_form hownG.out
                  go_wp2_with fail
                  obtain ⟨en', hen'⟩ := ENDS.out
                  have FIN := job_final hT3.out OE.out OL.out OK.out hownG.out hwsz hwp3 hen' HEL.out cE1 cE3 LOADS.out.1 mL3 LOADS.out.2 hgs.out.1 cG1 cG4 hgs.out.2 (by omega) (by omega) m21 (by omega)
                  exact bodyPost_ret (results_cell1 rfl _ _ _ (w.heap.size + 1) _ rfl (load_job FIN.1)) rfl FIN.2
            · have d1 : decide (m < nL) = false := decide_eq_false hn
              go_wp2_with fail
              clear hn hnn g0
              go_loopw [7] (fun s7 wr => ∃ (q : Nat) (gs : List Grade) (vG : Value), q ≤ cntG ∧ s7 = .int .i64 q ∧ Hid (gs.length = q ∧ ∀ i, i < gs.length → fairGrade (gd gs i) = true) ∧ Hid (wr.ownsRow wp.heap.size 63 5 vG q (gs.flatMap gradeC)) ∧ Hid (Trio w wr #[.slice AE nE cE, .slice AL nL cL, .slice AG nG cG, .int .i64 x.Factor, .int .i64 x.Over] vE vL vG (1000 + f1) o1) ∧ Hid (Below (w.heap.size + 1 + 1) w wr → True) ∧ Hid (wp.heap.size ≤ wr.heap.size) ∧ Hid (∀ k, w.heap.size + 1 + 1 < k → k < wp.heap.size → wr.heap[k]? = wp.heap[k]?)) (fun s7 _ => cntG - (intOf s7).toNat)
              case atStart => exact ⟨0, [], .slice none 0 0, Nat.zero_le _, rfl, ⟨rfl, fun i hi => absurd hi (by simp)⟩, World.ownsRow_nil _ _ _ _, HL3, (fun _ => trivial), Nat.le_refl _, fun _ _ _ => rfl⟩
              case round =>
                obtain ⟨q, gs, vG, hq, rfl, hgs, hownG, hT3, _, hsz3, hkeep⟩ := hrel
                have g0 := hT3.out.sheet.cell 2
                simp only [List.getElem?_toArray, List.getElem?_cons_zero, List.getElem?_cons_succ] at g0
                by_cases hlt : q < cntG
                · obtain ⟨r1, r2⟩ := hbG.out q
                  have j1 := hT3.out.job.cell 2
                  have j2 := hT3.out.job.frozen 2
                  have jlt := hT3.out.job.lt
                  simp only [List.getElem?_toArray, List.getElem?_cons_zero, List.getElem?_cons_succ] at j1
                  have hs3 := hsz3.out
                  go_wp2_with fail
                  refine (HPG.out wr hT3.out.below q (by omega)).mono ?_
                  rintro e w' ⟨rfl, rfl⟩
                  generalize fG q = d at *
                  have hmg : Hid (gradeC (madeGrade d) = [.int .i64 (d % 3000000000), .int .i64 (d / 5 % 3000000000), .int .i64 (1 + d / 7 % 200000000), .int .i64 (d / 11 % 400), .int .i64 (d / 13 % 20)]) := rfl
                  go_wp2_with (at_builtin; refine wpList_append_own _ rfl _ _ 34 rfl wp.heap.size 63 i2 (.agg #[.int .i64 0, .int .i64 0, .int .i64 0, .int .i64 0, .int .i64 0]) 5 40 Try.underlying34 hi2 hx0 hx1 hx2 rfl (by decide) vG q (gs.flatMap gradeC) rfl (hownG.out.alloc _) ⟨wr.heap.size, 0, none⟩ 1 1 (gradeC (madeGrade d)) rfl rfl ?_ ?_ ?_ ?_ ?_ ?_)
                  · exact cells_new wr (gradeC (madeGrade d)) 63
                  · simp [gradeC, Value.oneCell']
                  · unfold maxLen; omega
                  · omega
                  · simp; omega
                  intro v' w1 hown1 hg1 _
                  have hB1 := Lib.hid (below_grown ((Below.refl wp.heap.size wr).alloc hs3 _) (hownG.out.alloc _) hg1 (by simp; omega))
                  obtain ⟨A2, c2, rfl, _, _⟩ := own_form hown1
                  have HO1 := Lib.hid hown1
                  have hT1 := hT3.out.grow hB1.out (by omega)
                  have HT1 := Lib.hid hT1
                  clear hown1 hg1 j1 j2 g0 jlt
                  have j1 := hT1.job.cell 2
                  have j2 := hT1.job.frozen 2
                  simp only [List.getElem?_toArray, List.getElem?_cons_zero, List.getElem?_cons_succ] at j1
                  clear hT1
                  go_wp2_with fail
                  go_roundw
                  case rel =>
                    refine ⟨q + 1, gs ++ [madeGrade d], .slice A2 (q + 1) c2, hlt, by go_num, ⟨by rw [List.length_append, hgs.out.1]; rfl, gd_snoc gs _ hgs.out.2 (madeGrade_fair d)⟩, ?_, HT1.out.setG _, (fun _ => trivial), ?_, ?_⟩
                    · have := own_far (p := ⟨w.heap.size + 1 + 1, 2, none⟩) HO1.out (by simp; omega) (.slice A2 (q + 1) c2)
                      unfold Hid
                      rw [List.flatMap_append]
                      simpa using this
                    · have h1 := hB1.out.size
                      simp [Hid]
                      omega
                    · intro k hk1 hk2
                      exact ((Below.heap_setCell _ _ _ k (by simp; omega)).trans (hB1.out.block k hk2)).trans (hkeep.out k hk1 hk2)
                  case measure => simp [intOf]; omega
                · obtain rfl : q = cntG := by omega
                  have k0 := hT3.out.job.cell 0
                  have k1 := hT3.out.job.cell 1
                  have k2 := hT3.out.job.cell 2
                  have k3 := hT3.out.job.cell 3
                  have k4 := hT3.out.job.cell 4
                  have l0 := hT3.out.res.cell 0
                  have l1 := hT3.out.res.cell 1
                  have l2 := hT3.out.res.cell 2
                  have l3 := hT3.out.res.cell 3
                  have l4 := hT3.out.res.cell 4
                  have f0 := hT3.out.res.frozen 0
                  have f1' := hT3.out.res.frozen 1
                  have f2 := hT3.out.res.frozen 2
                  have f3 := hT3.out.res.frozen 3
                  have f4 := hT3.out.res.frozen 4
                  simp only [List.getElem?_toArray, List.getElem?_cons_zero, List.getElem?_cons_succ] at k0 k1 k2 k3 k4 l0 l1 l2 l3 l4
                  have hkeepO : ∀ {base e size : Nat} {v : Value} {n : Nat} {xs : List Value}, wp.ownsRow base e size v n xs → w.heap.size + 1 + 1 + 1 ≤ base → (∀ k, v.ownBlock = some k → k < wp.heap.size) → wr.ownsRow base e size v n xs := by
                    rintro base e size v n xs ⟨h1, h2⟩ hb hl
                    refine ⟨h1, ?_⟩
                    rcases h2 with h2 | ⟨g, cap, cur, hv, hg, hh, r⟩
                    · exact .inl h2
                    · exact .inr ⟨g, cap, cur, hv, hg, (hkeep.out g (by omega) (hl g (by rw [hv]; rfl))).trans hh, r⟩
                  have OE := Lib.hid (hkeepO hownE.out (Nat.le_refl _) hltE.out)
                  have OL := Lib.hid (hkeepO hownL.out hwsz hltL.out)
                  have OK := Lib.hid (show ∀ y ∈ ls, LoadOwn wr wo.heap.size y from fun y hy => ⟨hkeepO (hkn.out y hy).1 hwsz (hltK.out y hy).1, hkeepO (hkn.out y hy).2 hwsz (hltK.out y hy).2⟩)
                  have hwp3 : w.heap.size + 1 + 1 + 1 ≤ wp.heap.size := hwr3
                  clear hkeepO
                  obtain ⟨ae, ce, rfl, _, _⟩ := own_form OE.out
                  obtain ⟨al, cl, rfl, _, _⟩ := own_form OL.out
                  obtain ⟨ag, cg, rfl, _, _⟩ := own_form hownG.out
                  go_wp2_with fail
                  obtain ⟨en', hen'⟩ := ENDS.out
                  have FIN := job_final hT3.out OE.out OL.out OK.out hownG.out hwsz hwp3 hen' HEL.out cE1 cE3 LOADS.out.1 mL3 LOADS.out.2 hgs.out.1 cG1 cG4 hgs.out.2 (by omega) (by omega) m21 (by omega)
                  exact bodyPost_ret (results_cell1 rfl _ _ _ (w.heap.size + 1) _ rfl (load_job FIN.1)) rfl FIN.2

end Go.Proofs.Ytannipfohicpmaa
