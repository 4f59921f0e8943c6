/- Several texts in one: AnyRound, Held2, Held3, Held4, FWhere, FAnnulus, FRefHole, FGradient, FLoss, FBig, FRefBig, FSmall, FRefGas, FRefSmall, FRefFlows, FRefFlows2, FRefLoss, FOpen. -/
import Derived.Test.YtgcfplkfclapiaaInv
import Derived.Test.YtgcfplkfclapiaaIter2
import Derived.Test.YtgcfplkfclapiaaHeld
import Derived.Test.YtgcfplkfclapiaaFVolume
import Derived.Test.YtgcfplkfclapiaaKit
import Derived.Test.YtgcfplkfclapiaaFPlaces
import Derived.Deep.RegionHeld3
import Derived.Test.YtgcfplkfclapiaaFHeight2
import Derived.Deep.QuietTactic
import Derived.BigQuiet
import Derived.Test.YtgcfplkfclapiaaFFlows2
import Derived.Test.YtgcfplkfclapiaaContains
import Derived.Test.YtgcfplkfclapiaaFSpec
import Derived.Test.YtgcfplkfclapiaaFBase
import Derived.Deep.DeepCutAuto
import Derived.Test.YtgcfplkfclapiaaOpen
import Derived.Test.YtgcfplkfclapiaaFColumn
/- A region that draws its order, in a round of a range over a function: walked as outside of a round. -/
namespace Go.Proofs.Ytgcfplkfclapiaa
open Go.RowKit

/-- Q, but never outgrown -/
def noOut (Q : Exit → Act → World → Prop) : Exit → Act → World → Prop := fun e a w => e ≠ .outgrown ∧ Q e a w
theorem noOut_lets {Q : Exit → Act → World → Prop} : ¬ LetsOut (noOut Q) := fun ⟨_, _, h⟩ => h.1 rfl

section
variable {P : Program} {ops : Array Oper} {Q : Exit → Act → World → Prop} {md : Region.Mode} {n L : Nat}

theorem wpIn_of_wp {o : Oper} {a : Act} {w : World} {K : Act → World → Prop} (hd : ∀ c, o.op ≠ .defer c) (h : o.wp P a w K (noOut Q)) : o.wpIn Fence.wide n P a w K Q := by
  unfold Oper.wp at h
  unfold Oper.wpIn
  refine ⟨fun _ _ => trivial, ?_⟩
  rw [Oper.semAt_eq _ _ _ hd]
  generalize (execOp a.eval o).run P w = r at *
  cases r with
  | ok x w' =>
    cases x <;> simp only [Oper.upon] at h <;> simp only [Oper.uponIn]
    case enter f args =>
      refine ⟨(fun h => by cases h), callsIn_wide.2 (h.mono fun e w'' he => ?_)⟩
      cases e with
      | returned v => exact he
      | panicked c => exact he.2
      | outgrown => exact absurd he noOut_lets
    case row row args => exact ⟨(fun h => by cases h), fun c cs _ => let ⟨v, w2, r, s⟩ := h c cs; ⟨v, w2, r, stepsIn_wide.2 s⟩⟩
    all_goals exact h
  | halt x w' =>
    cases x <;> simp only [Oper.upon] at h <;> simp only [Oper.uponIn]
    all_goals exact h.2

theorem wpAnyIn_of_any (hd : noDefer ops = true) : ∀ {m : Nat} {b : Array Bool} {a : Act} {w : World}, wpAny P md ops (noOut Q) m b a w → wpAnyIn Fence.wide n P md ops Q m b a w
  | 0, _, _, _, h => ⟨h.1, h.2.2⟩
  | m + 1, b, a, w, h => ⟨fun hr => (h.1 hr).2, fun i hi => by
    have hh := h.2 i hi
    unfold wpOp at hh
    unfold wpOpIn
    cases ho : ops[i]? with
    | none => simp only [ho] at hh ⊢; exact wpAnyIn_of_any hd hh
    | some o =>
      simp only [ho] at hh ⊢
      split
      · rename_i hw
        simp only [hw, if_true] at hh
        rcases hh with hh | hh
        · exact wpIn_of_wp (noDefer_spec hd ho) (Oper.wp_mono (fun _ _ k => wpAnyIn_of_any hd k) hh)
        · exact absurd hh.2 noOut_lets
      · rename_i hw
        simp only [hw] at hh
        exact ⟨fun _ _ => trivial, wpAnyIn_of_any hd hh⟩⟩

theorem region_round {id : Nat} {a : Act} {w : World} (hm : P.follows .mixedOrders = true) (hd : noDefer ops = true) (h : wpAny P .any ops (noOut Q) ops.size (Array.replicate ops.size false) a w.drew) : (Code.region id ops true).wpIn (Fence.wide.inRound L) n P Q a w :=
  wpIn_region_any hm (wpAnyIn_round hd _ _ _ _ (wpAnyIn_of_any hd h))
end
end Go.Proofs.Ytgcfplkfclapiaa

/- A region that draws its order, whose last operations write what the region reads: what holds between the operations need not hold behind those. -/
namespace Go.Proofs.Ytgcfplkfclapiaa
open Go.RowKit

section
variable {P : Program} {ops : Array Oper} {Q : Exit → Act → World → Prop} {md : Region.Mode} {S : World → Prop} {Z : Nat → Bool}

/-- any order from here on; S holds behind each operation but those of Z -/
def AnyLate (P : Program) (md : Region.Mode) (ops : Array Oper) (Q : Exit → Act → World → Prop) (S : World → Prop) (Z : Nat → Bool) : Nat → Array Bool → Act → World → Prop
  | 0, b, a, w => Region.ready md ops b = [] ∧ Q .normal a w
  | m + 1, b, a, w => (Region.ready md ops b = [] → Q .normal a w) ∧ ∀ i ∈ Region.ready md ops b, wpOp P ops Q i (fun a' w' => (Z i = false → S w') ∧ AnyLate P md ops Q S Z m (b.setIfInBounds i true) a' w') a w

theorem AnyLate.any : ∀ {m : Nat} {b : Array Bool} {a : Act} {w : World}, AnyLate P md ops Q S Z m b a w → wpAny P md ops Q m b a w
  | 0, _, _, _, h => h
  | _ + 1, _, _, _, h => ⟨h.1, fun i hi => wpOp_mono (fun _ _ k => AnyLate.any k.2) (h.2 i hi)⟩

theorem AnyLate.begin {id : Nat} {a : Act} {w : World} (hm : P.follows .mixedOrders = true) (h : AnyLate P .any ops Q S Z ops.size (Array.replicate ops.size false) a w.drew) : (Code.region id ops true).wp P Q a w :=
  wp_region_any hm h.any

/-- what is done has all done that it waits for -/
def Closed (md : Region.Mode) (ops : Array Oper) (b : Array Bool) : Prop := ∀ j o, ops[j]? = some o → b.getD j true = true → ∀ e ∈ o.after, Region.binds md e = true → b.getD e.on true = true
def closedB (md : Region.Mode) (ops : Array Oper) (b : Array Bool) : Bool := (List.range ops.size).all fun j => match ops[j]? with | some o => !(b.getD j true) || o.after.all (fun e => !(Region.binds md e) || b.getD e.on true) | none => true
theorem closed_of {b : Array Bool} (h : closedB md ops b = true) : Closed md ops b := fun j o ho hj e he hb => by
  unfold closedB at h
  rw [List.all_eq_true] at h
  have hlt : j < ops.size := (Array.getElem?_eq_some_iff.1 ho).1
  have := h j (List.mem_range.2 hlt)
  simp only [ho, hj, Bool.not_true, Bool.false_or, Array.all_eq_true'] at this
  have h2 := this e he
  rw [hb] at h2
  simpa using h2
theorem ready_after {b : Array Bool} {z : Nat} (hz : z ∈ Region.ready md ops b) : ∃ o, ops[z]? = some o ∧ ∀ e ∈ o.after, Region.binds md e = true → b.getD e.on true = true := by
  obtain ⟨_, o, ho, hall⟩ := mem_ready.1 hz
  refine ⟨o, ho, fun e he hb => ?_⟩
  have := hall e he hb
  rcases Nat.lt_or_ge e.on b.size with hl | hl
  · simp [hl] at this ⊢
    exact this
  · simp [hl]
theorem Closed.set {b : Array Bool} {j : Nat} (h : Closed md ops b) (hj : j ∈ Region.ready md ops b) : Closed md ops (b.setIfInBounds j true) := fun i o ho hi e he hb => by
  have up : ∀ k, b.getD k true = true → (b.setIfInBounds j true).getD k true = true := fun k hk => by
    by_cases hjk : j = k
    · subst hjk
      rcases Nat.lt_or_ge j b.size with hl | hl
      · simp [hl]
      · simp [hl]
    · rwa [getD_set_ne true hjk]
  by_cases hij : j = i
  · subst hij
    obtain ⟨o', ho', h2⟩ := ready_after hj
    rw [ho] at ho'
    injection ho' with ho'
    subst ho'
    exact up _ (h2 e he hb)
  · rw [getD_set_ne true hij] at hi
    exact up _ (h i o ho hi e he hb)
/-- number z waits for number i, by n others at most -/
def waitsN (md : Region.Mode) (ops : Array Oper) : Nat → Nat → Nat → Bool
  | 0, z, i => match ops[z]? with | some o => o.after.any (fun e => Region.binds md e && e.on == i) | none => false
  | n + 1, z, i => match ops[z]? with | some o => o.after.any (fun e => Region.binds md e && (e.on == i || waitsN md ops n e.on i)) | none => false
theorem done_waits {b : Array Bool} (hc : Closed md ops b) (n : Nat) : ∀ z i, b.getD z true = true → waitsN md ops n z i = true → b.getD i true = true := by
  induction n with
  | zero =>
    intro z i hz h
    unfold waitsN at h
    cases ho : ops[z]? with
    | none => simp [ho] at h
    | some o =>
      simp only [ho, Array.any_eq_true'] at h
      obtain ⟨e, he, h⟩ := h
      simp only [Bool.and_eq_true, beq_iff_eq] at h
      rw [← h.2]
      exact hc z o ho hz e he h.1
  | succ n ih =>
    intro z i hz h
    unfold waitsN at h
    cases ho : ops[z]? with
    | none => simp [ho] at h
    | some o =>
      simp only [ho, Array.any_eq_true'] at h
      obtain ⟨e, he, h⟩ := h
      simp only [Bool.and_eq_true, Bool.or_eq_true, beq_iff_eq] at h
      have hd := hc z o ho hz e he h.1
      rcases h.2 with h2 | h2
      · rw [← h2]; exact hd
      · exact ih _ _ hd h2
theorem ready_waits {b : Array Bool} (hc : Closed md ops b) (n : Nat) {z i : Nat} (hz : z ∈ Region.ready md ops b) (h : waitsN md ops n z i = true) : b.getD i true = true := by
  obtain ⟨o, ho, ha⟩ := ready_after hz
  cases n with
  | zero =>
    unfold waitsN at h
    simp only [ho, Array.any_eq_true'] at h
    obtain ⟨e, he, h⟩ := h
    simp only [Bool.and_eq_true, beq_iff_eq] at h
    rw [← h.2]
    exact ha e he h.1
  | succ n =>
    unfold waitsN at h
    simp only [ho, Array.any_eq_true'] at h
    obtain ⟨e, he, h⟩ := h
    simp only [Bool.and_eq_true, Bool.or_eq_true, beq_iff_eq] at h
    rcases h.2 with h2 | h2
    · rw [← h2]; exact ha e he h.1
    · exact done_waits hc n _ _ (ha e he h.1) h2

theorem AnyLate.first {i : Nat} {o : Oper} {v : Value} (ho : ops[i]? = some o) (hs : ∀ (j : Nat) (o : Oper) cs d, ops[j]? = some o → o.op ≠ .select cs d) (hQ : ∀ c a w, Q (.panic c) (a.put o.dst v) w → Q (.panic c) a w) {nf : Nat} (hw : ∀ z, Z z = true → waitsN md ops nf z i = true) :
    ∀ (m : Nat) (b : Array Bool) (a : Act) (w : World), Closed md ops b → (∀ j oj, ops[j]? = some oj → j ≠ i → b.getD j true = false → (∀ e ∈ oj.after, Region.binds md e = true → e.on ≠ i) → o.apart ops oj = true) →
      i ∈ Region.ready md ops b → YieldsIf P ops S o v a → S w → AnyLate P md ops Q S Z m (b.setIfInBounds i true) (a.put o.dst v) w → AnyLate P md ops Q S Z (m + 1) b a w
  | m, b, a, w, hc, hf, hr, hy, hS, H => by
    refine ⟨fun h => (by rw [h] at hr; cases hr), fun j hj => ?_⟩
    have hib : b.getD i true = false := (mem_ready.1 hr).1
    by_cases hji : j = i
    · subst hji
      exact hy.wpOp ho hS ⟨fun _ => hS, H⟩
    · have hjr := ready_mono hj hji
      have hjz : Z j = false := by
        cases e : Z j with
        | false => rfl
        | true => rw [ready_waits hc nf hj (hw j e)] at hib; cases hib
      cases m with
      | zero => rw [H.1] at hjr; cases hjr
      | succ m =>
        obtain ⟨hjb, oj, hoj, hall⟩ := mem_ready.1 hj
        have hno : ∀ e ∈ oj.after, Region.binds md e = true → e.on ≠ i := fun e he hb heq => by
          have h1 := hall e he hb
          rw [heq] at h1
          rcases Nat.lt_or_ge i b.size with hl | hl
          · simp [hl] at h1 hib
            rw [h1] at hib
            cases hib
          · simp [Array.getElem?_eq_none hl] at hib
        have hput := wpOp_putIf hoj (hf j oj hoj hji hjb hno) (fun cs d => hs i o cs d ho) (fun cs d => hs j oj cs d hoj) hQ hy (H.2 j hjr)
        refine wpOp_mono (fun a' w' k => ⟨fun _ => k.2.1 hjz, AnyLate.first ho hs hQ hw m _ a' w' (hc.set hj) (fun l ol hl hli hlb hn => hf l ol hl hli ?_ hn) (ready_mono hr (Ne.symm hji)) k.1 (k.2.1 hjz) ?_⟩) hput
        · by_cases hjl : j = l
          · subst hjl; exact hjb
          · rwa [getD_set_ne true hjl] at hlb
        · rw [Array.setIfInBounds_comm _ _ hji]
          exact k.2.2

theorem AnyLate.take {i : Nat} {o : Oper} {v : Value} {m : Nat} {b : Array Bool} {a : Act} {w : World} (zs : List Nat) (nf : Nat) (hz : ∀ z, Z z = true → z ∈ zs) (ho : ops[i]? = some o) (hs : Region.noSelect ops = true) (hf : Region.free md ops b i = true) (hr : (Region.ready md ops b).contains i = true) (hw : zs.all (fun z => waitsN md ops nf z i) = true) (hc : closedB md ops b = true)
    (hQ : ∀ c a w, Q (.panic c) (a.put o.dst v) w → Q (.panic c) a w) (hS : S w) (hy : YieldsIf P ops S o v a) (h : AnyLate P md ops Q S Z m (b.setIfInBounds i true) (a.put o.dst v) w) : AnyLate P md ops Q S Z (m + 1) b a w :=
  AnyLate.first ho (Region.noSelect_spec hs) hQ (fun z h => List.all_eq_true.1 hw z (hz z h)) m b a w (closed_of hc) (Region.free_spec ho hf) (by simpa using hr) hy hS h

theorem AnyLate.done {b : Array Bool} {a : Act} {w : World} (hr : Region.ready md ops b = []) (h : Q .normal a w) : ∀ {m : Nat}, AnyLate P md ops Q S Z m b a w
  | 0 => ⟨hr, h⟩
  | _ + 1 => ⟨fun _ => h, by rw [hr]; simp⟩
/-- just one operation may come up, one of Z -/
theorem AnyLate.only {i : Nat} {o : Oper} {m : Nat} {b : Array Bool} {a : Act} {w : World} (hr : Region.ready md ops b = [i]) (ho : ops[i]? = some o) (hg : o.guard = none) (hZ : Z i = true)
    (h : ∀ K : Act → World → Prop, (∀ a' w', AnyLate P md ops Q S Z m (b.setIfInBounds i true) a' w' → K a' w') → o.wp P a w K Q) : AnyLate P md ops Q S Z (m + 1) b a w :=
  ⟨fun h0 => (by rw [hr] at h0; cases h0), fun j hj => by
    rw [hr, List.mem_singleton] at hj
    subst hj
    unfold wpOp
    simp only [ho]
    rw [if_pos (by simp [Region.wanted, hg])]
    exact .inl (h _ fun a' w' h1 => ⟨fun e => (by rw [hZ] at e; cases e), h1⟩)⟩
/-- one of two operations may come up, both of Z -/
theorem AnyLate.pair {i j : Nat} {o o' : Oper} {m : Nat} {b : Array Bool} {a : Act} {w : World} (hr : Region.ready md ops b = [i, j]) (ho : ops[i]? = some o) (hg : o.guard = none) (hZ : Z i = true) (ho' : ops[j]? = some o') (hg' : o'.guard = none) (hZ' : Z j = true)
    (h : ∀ K : Act → World → Prop, (∀ a' w', AnyLate P md ops Q S Z m (b.setIfInBounds i true) a' w' → K a' w') → o.wp P a w K Q) (h' : ∀ K : Act → World → Prop, (∀ a' w', AnyLate P md ops Q S Z m (b.setIfInBounds j true) a' w' → K a' w') → o'.wp P a w K Q) : AnyLate P md ops Q S Z (m + 1) b a w :=
  ⟨fun h0 => (by rw [hr] at h0; cases h0), fun l hl => by
    rw [hr] at hl
    simp only [List.mem_cons, List.not_mem_nil, or_false] at hl
    rcases hl with rfl | rfl
    · unfold wpOp
      simp only [ho]
      rw [if_pos (by simp [Region.wanted, hg])]
      exact .inl (h _ fun a' w' h1 => ⟨fun e => (by rw [hZ] at e; cases e), h1⟩)
    · unfold wpOp
      simp only [ho']
      rw [if_pos (by simp [Region.wanted, hg'])]
      exact .inl (h' _ fun a' w' h1 => ⟨fun e => (by rw [hZ'] at e; cases e), h1⟩)⟩
end

end Go.Proofs.Ytgcfplkfclapiaa

/- A region that draws its order, with a store in its midst and one at its end: what holds before the store need not hold behind it. -/
namespace Go.Proofs.Ytgcfplkfclapiaa
open Go.RowKit

section
variable {P : Program} {ops : Array Oper} {Q : Exit → Act → World → Prop} {md : Region.Mode} {q : Nat} {S : Bool → World → Prop} {Z : Nat → Bool}

/-- any order from here on; S, told whether q is done, holds behind each operation but those of Z -/
def AnyMid (P : Program) (md : Region.Mode) (ops : Array Oper) (Q : Exit → Act → World → Prop) (q : Nat) (S : Bool → World → Prop) (Z : Nat → Bool) : Nat → Array Bool → Act → World → Prop
  | 0, b, a, w => Region.ready md ops b = [] ∧ Q .normal a w
  | m + 1, b, a, w => (Region.ready md ops b = [] → Q .normal a w) ∧ ∀ i ∈ Region.ready md ops b, wpOp P ops Q i (fun a' w' => (Z i = false → S ((b.setIfInBounds i true).getD q true) w') ∧ AnyMid P md ops Q q S Z m (b.setIfInBounds i true) a' w') a w

theorem AnyMid.any : ∀ {m : Nat} {b : Array Bool} {a : Act} {w : World}, AnyMid P md ops Q q S Z m b a w → wpAny P md ops Q m b a w
  | 0, _, _, _, h => h
  | _ + 1, _, _, _, h => ⟨h.1, fun i hi => wpOp_mono (fun _ _ k => AnyMid.any k.2) (h.2 i hi)⟩

theorem AnyMid.begin {id : Nat} {a : Act} {w : World} (hm : P.follows .mixedOrders = true) (h : AnyMid P .any ops Q q S Z ops.size (Array.replicate ops.size false) a w.drew) : (Code.region id ops true).wp P Q a w :=
  wp_region_any hm h.any

theorem AnyMid.first {T : World → Prop} {i : Nat} {o : Oper} {v : Value} (ho : ops[i]? = some o) (hs : ∀ (j : Nat) (o : Oper) cs d, ops[j]? = some o → o.op ≠ .select cs d) (hQ : ∀ c a w, Q (.panic c) (a.put o.dst v) w → Q (.panic c) a w) {nf : Nat} (hw : ∀ z, Z z = true → waitsN md ops nf z i = true) (hiq : i ≠ q)
    (h0 : ∀ w, S false w → T w) (h1 : waitsN md ops nf q i = true ∨ ∀ w, S true w → T w) :
    ∀ (m : Nat) (b : Array Bool) (a : Act) (w : World), Closed md ops b → (∀ j oj, ops[j]? = some oj → j ≠ i → b.getD j true = false → (∀ e ∈ oj.after, Region.binds md e = true → e.on ≠ i) → o.apart ops oj = true) →
      i ∈ Region.ready md ops b → YieldsIf P ops T o v a → S (b.getD q true) w → AnyMid P md ops Q q S Z m (b.setIfInBounds i true) (a.put o.dst v) w → AnyMid P md ops Q q S Z (m + 1) b a w
  | m, b, a, w, hc, hf, hr, hy, hS, H => by
    refine ⟨fun h => (by rw [h] at hr; cases hr), fun j hj => ?_⟩
    have hib : b.getD i true = false := (mem_ready.1 hr).1
    have hT : T w := by
      cases e : b.getD q true with
      | false => rw [e] at hS; exact h0 _ hS
      | true =>
        rcases h1 with h1 | h1
        · rw [done_waits hc nf _ _ e h1] at hib; cases hib
        · rw [e] at hS; exact h1 _ hS
    by_cases hji : j = i
    · subst hji
      refine hy.wpOp ho hT ⟨fun _ => ?_, H⟩
      rw [getD_set_ne true hiq]
      exact hS
    · have hjr := ready_mono hj hji
      have hjz : Z j = false := by
        cases e : Z j with
        | false => rfl
        | true => rw [ready_waits hc nf hj (hw j e)] at hib; cases hib
      cases m with
      | zero => rw [H.1] at hjr; cases hjr
      | succ m =>
        obtain ⟨hjb, oj, hoj, hall⟩ := mem_ready.1 hj
        have hno : ∀ e ∈ oj.after, Region.binds md e = true → e.on ≠ i := fun e he hb heq => by
          have h1 := hall e he hb
          rw [heq] at h1
          rcases Nat.lt_or_ge i b.size with hl | hl
          · simp [hl] at h1 hib
            rw [h1] at hib
            cases hib
          · simp [Array.getElem?_eq_none hl] at hib
        have hput := wpOp_putIf hoj (hf j oj hoj hji hjb hno) (fun cs d => hs i o cs d ho) (fun cs d => hs j oj cs d hoj) hQ hy (H.2 j hjr)
        have hk : ∀ w', S (((b.setIfInBounds i true).setIfInBounds j true).getD q true) w' → S ((b.setIfInBounds j true).getD q true) w' := fun w' h => by
          rw [Array.setIfInBounds_comm _ _ (Ne.symm hji), getD_set_ne true hiq] at h
          exact h
        refine wpOp_mono (fun a' w' k => ⟨fun _ => hk _ (k.2.1 hjz), AnyMid.first ho hs hQ hw hiq h0 h1 m _ a' w' (hc.set hj) (fun l ol hl hli hlb hn => hf l ol hl hli ?_ hn) (ready_mono hr (Ne.symm hji)) k.1 (hk _ (k.2.1 hjz)) ?_⟩) hput
        · by_cases hjl : j = l
          · subst hjl; exact hjb
          · rwa [getD_set_ne true hjl] at hlb
        · rw [Array.setIfInBounds_comm _ _ hji]
          exact k.2.2

/-- number i, for which q and the last ones wait: what it reads stands before q -/
theorem AnyMid.take (T : World → Prop) {i : Nat} {o : Oper} {v : Value} {m : Nat} {b : Array Bool} {a : Act} {w : World} (zs : List Nat) (nf : Nat) (hz : ∀ z, Z z = true → z ∈ zs) (h0 : ∀ w, S false w → T w) (h1 : waitsN md ops nf q i = true ∨ ∀ w, S true w → T w) (hS : S (b.getD q true) w) (ho : ops[i]? = some o)
    (hk : (Region.noSelect ops && Region.free md ops b i && (Region.ready md ops b).contains i && zs.all (fun z => waitsN md ops nf z i) && closedB md ops b && !(i == q)) = true)
    (hQ : ∀ c a w, Q (.panic c) (a.put o.dst v) w → Q (.panic c) a w) (hy : YieldsIf P ops T o v a) (h : AnyMid P md ops Q q S Z m (b.setIfInBounds i true) (a.put o.dst v) w) : AnyMid P md ops Q q S Z (m + 1) b a w := by
  simp only [Bool.and_eq_true] at hk
  obtain ⟨⟨⟨⟨⟨k1, k2⟩, k3⟩, k4⟩, k5⟩, k6⟩ := hk
  exact AnyMid.first ho (Region.noSelect_spec k1) hQ (fun z h => List.all_eq_true.1 k4 z (hz z h)) (by simpa using k6) h0 h1 m b a w (closed_of k5) (Region.free_spec ho k2) (by simpa using k3) hy hS h

theorem AnyMid.done {b : Array Bool} {a : Act} {w : World} (hr : Region.ready md ops b = []) (h : Q .normal a w) : ∀ {m : Nat}, AnyMid P md ops Q q S Z m b a w
  | 0 => ⟨hr, h⟩
  | _ + 1 => ⟨fun _ => h, by rw [hr]; simp⟩
/-- just one operation may come up -/
theorem AnyMid.only {i : Nat} {o : Oper} {m : Nat} {b : Array Bool} {a : Act} {w : World} (hr : Region.ready md ops b = [i]) (ho : ops[i]? = some o) (hg : o.guard = none)
    (h : ∀ K : Act → World → Prop, (∀ a' w', (Z i = false → S ((b.setIfInBounds i true).getD q true) w') → AnyMid P md ops Q q S Z m (b.setIfInBounds i true) a' w' → K a' w') → o.wp P a w K Q) : AnyMid P md ops Q q S Z (m + 1) b a w :=
  ⟨fun h0 => (by rw [hr] at h0; cases h0), fun j hj => by
    rw [hr, List.mem_singleton] at hj
    subst hj
    unfold wpOp
    simp only [ho]
    rw [if_pos (by simp [Region.wanted, hg])]
    exact .inl (h _ fun a' w' h1 h2 => ⟨h1, h2⟩)⟩
end

end Go.Proofs.Ytgcfplkfclapiaa

/- A region that draws its order: one operation taken first, its slot named, so that the frame does not grow. -/
namespace Go.Proofs.Ytgcfplkfclapiaa
open Go.RowKit

section
variable {P : Program} {ops : Array Oper} {Q : Exit → Act → World → Prop} {md : Region.Mode}
theorem AnyBut.takeD {S : World → Prop} {z : Nat} (i t : Nat) {o : Oper} {v : Value} {m : Nat} {b : Array Bool} {tm : Array Value} {de : List Deferred} {w : World} (ho : ops[i]? = some o) (hd : o.dst = some t) (hk : (Region.noSelect ops && Region.free md ops b i && (Region.ready md ops b).contains i && waits md ops z i) = true)
    (hQ : ∀ c a w, Q (.panic c) (a.put o.dst v) w → Q (.panic c) a w) (hS : S w) (hy : YieldsIf P ops S o v ⟨tm, de⟩) (h : AnyBut P md ops Q S z m (b.setIfInBounds i true) ⟨tm.setIfInBounds t v, de⟩ w) : AnyBut P md ops Q S z (m + 1) b ⟨tm, de⟩ w := by
  simp only [Bool.and_eq_true] at hk
  obtain ⟨⟨⟨k1, k2⟩, k3⟩, k4⟩ := hk
  refine AnyBut.take ho k1 k2 k3 k4 hQ hS hy ?_
  rw [hd]
  exact h
theorem AnyMid.takeD {q : Nat} {S : Bool → World → Prop} {Z : Nat → Bool} (T : World → Prop) (i t : Nat) {o : Oper} {v : Value} {m : Nat} {b : Array Bool} {tm : Array Value} {de : List Deferred} {w : World} (zs : List Nat) (nf : Nat) (hz : ∀ z, Z z = true → z ∈ zs) (h0 : ∀ w, S false w → T w) (h1 : waitsN md ops nf q i = true ∨ ∀ w, S true w → T w) (hS : S (b.getD q true) w) (ho : ops[i]? = some o) (hd : o.dst = some t)
    (hk : (Region.noSelect ops && Region.free md ops b i && (Region.ready md ops b).contains i && zs.all (fun z => waitsN md ops nf z i) && closedB md ops b && !(i == q)) = true)
    (hQ : ∀ c a w, Q (.panic c) (a.put o.dst v) w → Q (.panic c) a w) (hy : YieldsIf P ops T o v ⟨tm, de⟩) (h : AnyMid P md ops Q q S Z m (b.setIfInBounds i true) ⟨tm.setIfInBounds t v, de⟩ w) : AnyMid P md ops Q q S Z (m + 1) b ⟨tm, de⟩ w := by
  refine AnyMid.take T zs nf hz h0 h1 hS ho hk hQ hy ?_
  rw [hd]
  exact h
end

end Go.Proofs.Ytgcfplkfclapiaa

/- Walks of the package fluid: whether a place is in a hole, and in which segment. -/
namespace Mpl
theorem passed_stop (l : List Seg) (u : Int) (k m : Nat) (h : u < sizeUp l k) : passed l u k m = k := by
  cases m with
  | zero => rfl
  | succ m => rw [passed, if_pos h]
theorem passed_go (l : List Seg) (u : Int) (k m : Nat) (h : ¬ u < sizeUp l k) : passed l u k (m + 1) = passed l u (k + 1) m := by rw [passed, if_neg h]
end Mpl
namespace Go.Proofs.Ytgcfplkfclapiaa
open Go.RowKit Go.Shelf Mpl
attribute [local go_sem] Oper.semAt_some

set_option maxHeartbeats 4000000 in
set_option maxRecDepth 100000 in
theorem fluid_Where (v0 : Value) (l : List Seg) (u : Int) (w : World) (hv : HoleV w w.heap.size v0 l) (hin : SegsIn l) (hm : l.length ≤ maxLen) :
    Calls Try.prog 33 #[v0, .int .i64 u] w fun e w' => e = .returned (.int .i64 (whereOf l u)) ∧ Below w.heap.size w w' := by
  have hvv := hv
  obtain ⟨A, c, rfl, hS⟩ := hv
  obtain ⟨w0, hw0⟩ : ∃ w0, (w.alloc (.cells #[.slice A l.length c] 25)).alloc (.cells #[.int .i64 u] 2) = w0 := ⟨_, rfl⟩
  have hB0 : Below w.heap.size w w0 := by rw [← hw0]; exact (by repeat (first | exact Below.refl _ _ | assumption | refine Below.setCell ?_ (by first | (simp; done) | (simp; omega)) _ | refine belowDrewN ?_ _ | refine Below.drew ?_ | refine Below.alloc ?_ (by first | (simp; done) | (simp; omega)) _))
  have b0 : Box w0 w.heap.size 25 #[.slice A l.length c] := by rw [← hw0]; exact (Box.new w _ _ rfl).alloc _
  have b1 : Box w0 (w.heap.size + 1) 2 #[.int .i64 u] := by rw [← hw0]; exact Box.new _ _ _ (by simp)
  have HI := Lib.hid (fluid_in _ l u w0 (hvv.below hB0) hin hm)
  have hd : Hid (whereOf l u = if inHole l u then (passed l u 0 l.length : Int) - 1 else -1) := rfl
  have hgood : inHole l u = true → GoodHole l := fun h => (checkHole_iff l).1 (by
    unfold inHole at h
    simp at h
    exact h.1)
  have HW0 := Lib.hid hw0
  clear hw0
  have HB0 := Lib.hid hB0
  have B0 := Lib.hid b0
  have B1 := Lib.hid b1
  clear hvv b0 b1
  cases hh : inHole l u
  · have hs : Hid (whereOf l u = -1) := by unfold Hid; rw [hd.out, hh]; rfl
    rw [hh] at HI
    clear hS hd hgood hh hin hB0
    generalize whereOf l u = res at *
    generalize l.length = n at *
    have q1 := B1.out.cell 0
    have q0 := B0.out.cell 0
    simp only [List.getElem?_toArray, List.getElem?_cons_zero] at q0 q1
    go_enter Try.func33, Try.ntmps33
    go_wp2_with fail
    rw [HW0.out]
    go_wp2_with fail
    refine HI.out.mono ?_
    rintro e w1 ⟨rfl, hb1⟩
    go_wp2_with fail
    go_ret
    exact ⟨ret_int hs.out.symm, HB0.out.trans (hb1.mono HB0.out.size)⟩
  have HG := Lib.hid (hgood hh)
  have hfew := HG.out.few
  have hs : Hid (whereOf l u = (passed l u 0 l.length : Int) - 1) := by unfold Hid; rw [hd.out, hh]; rfl
  rw [hh] at HI
  have HS := Lib.hid (hS.up hB0 (Nat.le_refl _))
  clear hS hd hgood hh hin hB0
  generalize whereOf l u = res at *
  generalize hP : passed l u 0 l.length = P at *
  have HP := Lib.hid hP
  clear hP
  have hfs : Fence.wide.fn 71 := trivial
  have hfi : Fence.wide.fn 73 := trivial
  generalize hn : l.length = n at *
  have HN := Lib.hid hn
  clear hn
  have q1 := B1.out.cell 0
  have q0 := B0.out.cell 0
  simp only [List.getElem?_toArray, List.getElem?_cons_zero] at q0 q1
  refine (callsIn_wide (n := 10)).1 ?_
  refine callsIn_of_wp_marks Try.func33 rfl trivial ?_ rfl
  simp only [Try.ntmps33, List.size_toArray, List.length_cons, List.length_nil, Nat.reduceAdd, Nat.reduceSub, Array.replicate_succ, Array.replicate_zero, List.push_toArray, List.append_toArray, List.nil_append, List.cons_append]
  gi_wp2_with fail
  rw [HW0.out]
  gi_wp2_with fail
  refine (callsIn_wide.2 HI.out).mono ?_
  rintro e w1 ⟨rfl, hb1⟩
  obtain ⟨w3, hw3⟩ : ∃ w3, (w1.alloc (.cells #[.int .i64 (-1)] 3)).alloc (.cells #[.slice A n c] 25) = w3 := ⟨_, rfl⟩
  have bo : Box w3 w1.heap.size 3 #[.int .i64 (-1)] := by rw [← hw3]; exact (Box.new _ _ _ rfl).alloc _
  have bh : Box w3 (w1.heap.size + 1) 25 #[.slice A n c] := by rw [← hw3]; exact Box.new _ _ _ (by simp)
  have b13 : Below w1.heap.size w1 w3 := by rw [← hw3]; exact ((Below.refl _ _).alloc (Nat.le_refl _) _).alloc (by simp) _
  have hs3 : w3.heap.size = w1.heap.size + 1 + 1 := by rw [← hw3]; simp
  have HW3 := Lib.hid hw3
  have HS3 := Lib.hid hs3
  have B01 := Lib.hid (B0.out.under hb1)
  have B11 := Lib.hid (B1.out.under hb1)
  have B03 := Lib.hid (B01.out.under b13)
  have B13 := Lib.hid (B11.out.under b13)
  have HB1 := Lib.hid (HB0.out.trans (hb1.mono HB0.out.size))
  have HB3 := Lib.hid (HB1.out.trans (b13.mono HB1.out.size))
  have hlt1 : w.heap.size + 1 < w1.heap.size := B11.out.lt
  have hlt0 : w.heap.size < w1.heap.size := B01.out.lt
  have HSR := Lib.hid (HS.out.up (hb1.mono HB0.out.size) (Nat.le_refl _))
  clear hw3 hs3 q0 q1
  have q0 := B01.out.cell 0
  have q1 := B11.out.cell 0
  simp only [List.getElem?_toArray, List.getElem?_cons_zero] at q0 q1
  gi_wp2_with fail
  refine (callsIn_wide.2 (fluid_places _ _)).mono ?_
  rintro e w' ⟨rfl, rfl⟩
  rw [HW3.out]
  gi_wp2_with fail
  have hfs1 : Fence.wide.fn 94 := trivial
  refine range_idx2 rfl (by omega) (gf := 94) (lb := #[.pointer (some ⟨w1.heap.size + 1, 0, none⟩)]) rfl trivial enters_places1
    (places_iter 9 (w1.heap.size + 1) w.heap.size A c l HG.out (by omega)) (fun _ => rfl)
    ?rd ?rdc
    (fun k W => Box W w1.heap.size 3 #[.int .i64 ((k : Int) - 1)] ∧ Box W (w.heap.size + 1) 2 #[.int .i64 u] ∧ Below w.heap.size w W ∧ passed l u k (n - k) = P)
    (fun c k W => c = .exit 0 ∧ Box W w1.heap.size 3 #[.int .i64 ((k : Int) - 1)] ∧ Below w.heap.size w W ∧ k = P) ?ic ?ixc ?i0
    (fun k a' W => a' = { tmps := #[.agg #[.slice A n c], .int .i64 u, .pointer (some ⟨w.heap.size, 0, none⟩), .pointer (some ⟨w.heap.size + 1, 0, none⟩), .int .i64 0, .pointer (some ⟨w1.heap.size, 0, none⟩), .int .i64 (sizeUp l k), .agg #[.slice A n c], .int .i64 u, .bool true, .bool false, .agg #[.slice A n c], .func (.func 94) #[] #[.pointer (some ⟨w1.heap.size + 1, 0, none⟩)], .int .i64 (sizeUp l k), segV (sg l k), undef, undef, undef, undef, undef, undef], defers := [] })
    ?axc ?assign ?body ?done ?stop
  case rd => exact ⟨by have := bh.cell 0; rw [HN.out]; exact this, HSR.out.up (b13.mono (by omega)) (Nat.le_refl _)⟩
  case rdc => exact fun W W' h hc => h.calm hc
  case ic => exact fun k W W' h hc => ⟨h.1.calm hc, h.2.1.calm hc, below_calm h.2.2.1 hc (by rw [HS3.out]; omega), h.2.2.2⟩
  case ixc => exact fun _ _ _ _ h hc => ⟨h.1, h.2.1.calm hc, below_calm h.2.2.1 hc (by rw [HS3.out]; omega), h.2.2.2⟩
  case i0 => exact ⟨bo, B13.out, HB3.out, by rw [← HN.out] at HP; simpa [HN.out] using HP.out⟩
  case axc => exact fun k a' W W' h _ => h
  case assign =>
    rintro L k W K hk hi hr hsz hK
    have HKK := Lib.hid hK
    clear hK hi hr
    simp only [segEnc, segV]
    gi_wp2_with fail
    exact HKK.out _ _ (Below.refl _ _) rfl
  case body =>
    rintro L k a' W0 W hk hi0 hlt0' hca ⟨c1, c2, hB, hps⟩ hr rfl hsz
    have hmix : Try.prog.follows .mixedOrders = true := by kernel_rfl
    have hkn : k < n := by rw [← HN.out]; exact hk
    have x0 := c1.cell 0
    have x1 := c2.cell 0
    have x2 := c1.frozen 0
    simp only [List.getElem?_toArray, List.getElem?_cons_zero] at x0 x1
    have C1 := Lib.hid c1
    have C2 := Lib.hid c2
    have HB := Lib.hid hB
    have HR := Lib.hid hr
    have HPS := Lib.hid hps
    have hfs' := HS3.out
    clear c1 c2 hB hr hps hi0 hca hk
    by_cases hgo : u < sizeUp l k
    · have t1 : decide (u < sizeUp l k) = true := decide_eq_true hgo
      have hkP : Hid (k = P) := by unfold Hid; rw [← HPS.out, passed_stop l u k _ hgo]
      generalize sizeUp l k = S at *
      gi_wp2_with fail
      exact ⟨keeps_below (Below.refl _ W), rfl, C1.out, HB.out, hkP.out⟩
    · have t1 : decide (u < sizeUp l k) = false := decide_eq_false hgo
      have hnx : Hid (passed l u (k + 1) (n - (k + 1)) = P) := by
        unfold Hid
        rw [← HPS.out, show n - k = (n - (k + 1)) + 1 by omega, passed_go l u k _ hgo]
      generalize sizeUp l k = S at *
      have hwr : IntKind.i64.wrap ((k : Int) - 1 + 1) = (((k + 1 : Nat) : Int) - 1) := by rw [IntWalk.i64_in _ (by omega)]; omega
      gi_wp2_with fail
      refine ⟨keeps_set W _ _, ⟨?_, C2.out.far (by simp; omega) _, HB.out.setCell (p := ⟨w1.heap.size, 0, none⟩) (by simp; omega) _, hnx.out⟩, HR.out.set_ (p := ⟨w1.heap.size, 0, none⟩) (by simp; omega) (by simp) _, (Mid.refl _ W).set (by rw [HS3.out] at hlt0'; simp; omega) _⟩
      have := C1.out.set_ 0 (.int .i64 (k : Int))
      rw [show (((k + 1 : Nat) : Int) - 1) = (k : Int) by omega]
      simpa using this
  case done =>
    rintro W ⟨c1, c2, hB, hps⟩ hK
    have x0 := c1.cell 0
    simp only [List.getElem?_toArray, List.getElem?_cons_zero] at x0
    gi_wp2_with fail
    refine ⟨by simp, .inl ⟨_, _, rfl, run_takeDeferred hK, ?_⟩⟩
    refine ⟨_, results_tmp rfl _ _ _, ?_, hB.trans (belowK_b (w := w) (Nat.le_refl _) W w3.heap.size _ _ (by rw [HS3.out]; omega) hK rfl rfl)⟩
    refine ret_int ?_
    rw [hs.out, ← hps, HN.out, Nat.sub_self]
    rfl
  case stop =>
    rintro c k W hk ⟨rfl, c1, hB, rfl⟩ hK
    have x0 := c1.cell 0
    simp only [List.getElem?_toArray, List.getElem?_cons_zero] at x0
    gi_wp2_with fail
    refine ⟨by simp, .inl ⟨_, _, rfl, run_takeDeferred hK, ?_⟩⟩
    refine ⟨_, results_tmp rfl _ _ _, ?_, hB.trans (belowK_b (w := w) (Nat.le_refl _) W w3.heap.size _ _ (by rw [HS3.out]; omega) hK rfl rfl)⟩
    exact ret_int hs.out.symm

end Go.Proofs.Ytgcfplkfclapiaa

/- Walks of moonpoolkit: a hole made of numbers. -/
namespace Mpl
structure SegMade (s : Seg) : Prop where
  l0 : 1 ≤ s.Long
  l1 : s.Long ≤ 100000
  r0 : 0 ≤ s.Rise
  r1 : s.Rise ≤ s.Long
  a0 : 1 ≤ s.Area
  a1 : s.Area ≤ 1500
  g0 : 1 ≤ s.Gap
  g1 : s.Gap ≤ 200
theorem SegMade.good {s : Seg} (h : SegMade s) : GoodSeg s := ⟨h.l0, h.r0, h.r1, h.a0, by have := h.a1; omega, h.g0, h.g1⟩
/-- a hole made of numbers -/
structure Annular (h : List Seg) : Prop where
  pos : 0 < h.length
  few : h.length ≤ 5
  seg : ∀ s ∈ h, SegMade s
theorem sg_mem {h : List Seg} {i : Nat} (hi : i < h.length) : sg h i ∈ h := by simp [sg, hi]
theorem Annular.at {h : List Seg} (a : Annular h) {i : Nat} (hi : i < h.length) : SegMade (sg h i) := a.seg _ (sg_mem hi)
theorem long_le (f : Nat → Int) (M : Int) (n : Nat) (h : ∀ k, k < n → f k ≤ M) : sumFrom f 0 n ≤ n * M := by
  induction n with
  | zero => simp [sumFrom]
  | succ n ih =>
    rw [up_step]
    have := ih fun k hk => h k (by omega)
    have := h n (by omega)
    rw [show ((n + 1 : Nat) : Int) = (n : Int) + 1 by omega, Int.add_mul]
    omega
theorem Annular.good {h : List Seg} (a : Annular h) : GoodHole h := by
  refine ⟨a.pos, by have := a.few; omega, fun i hi => (a.at hi).good, ?_⟩
  have := long_le (longAt h) 100000 h.length fun k hk => (a.at hk).l1
  have := a.few
  show sumFrom (longAt h) 0 h.length ≤ _
  omega
theorem Annular.one_le {h : List Seg} (a : Annular h) : 1 ≤ sizeUp h h.length := by
  have := (a.good.ups h.length (Nat.le_refl _)).2.2.2.2.1
  have := a.pos
  omega
end Mpl
namespace Go.Proofs.Ytgcfplkfclapiaa
open Go.RowKit Go.Shelf Mpl

theorem Segs.own {w : World} {base : Nat} {e : TypeId} {v : Value} {n : Nat} {l : List Seg} (h : w.ownsRow base e 4 v n (l.flatMap segC)) :
    ∃ A c, v = .slice A l.length c ∧ l.length ≤ c ∧ Segs w w.heap.size A l := by
  have hn : n = l.length := by have := h.1; rw [flatC_len segC 4 (fun _ => rfl)] at this; omega
  subst hn
  obtain ⟨A, c, rfl, hnc, hc⟩ := own_form h
  refine ⟨A, c, rfl, hnc, fun h0 => ?_⟩
  obtain ⟨g, rfl, _, hlt, hcell⟩ := hc h0
  refine ⟨g, 0, rfl, hlt, fun i hi => ?_⟩
  have ht : sg l i = l[i] := by simp [sg, hi]
  have hg := fun j hj => flat_get segC 4 (fun _ => rfl) l i j hi hj
  rw [ht]
  refine ⟨?_, ?_, ?_, ?_⟩
  · have := hcell (i * 4 + 0) _ ((hg 0 (by omega)).trans rfl); simpa using this
  · have := hcell (i * 4 + 1) _ ((hg 1 (by omega)).trans rfl); simpa using this
  · have := hcell (i * 4 + 2) _ ((hg 2 (by omega)).trans rfl); simpa using this
  · have := hcell (i * 4 + 3) _ ((hg 3 (by omega)).trans rfl); simpa using this
theorem info_Seg : (Try.prog.info? 29).map (fun i => (i.zero, i.size, i.bytes)) = some (some (.agg #[.int .i64 0, .int .i64 0, .int .i64 0, .int .i64 0]), 4, 32) := by kernel_rfl

def madeSeg (n : Int) : Seg := ⟨1 + n % 100000, n / 11 % (1 + n % 100000 + 1), 1 + n / 3 % 1500, 1 + n / 7 % 200⟩
theorem madeSeg_made (n : Int) (_h : 0 ≤ n) : SegMade (madeSeg n) := by
  unfold madeSeg
  refine ⟨?_, ?_, ?_, ?_, ?_, ?_, ?_, ?_⟩ <;> simp only <;> try omega
  have h1 := Int.emod_nonneg (n / 11) (show 1 + n % 100000 + 1 ≠ 0 by omega)
  exact h1
  have h2 := Int.emod_lt_of_pos (n / 11) (show 0 < 1 + n % 100000 + 1 by omega)
  omega

theorem load_one {w : World} {g t : Nat} {v : Value} (b : Box w g t #[v]) : (loadVar 25 ⟨g, 0, none⟩).run Try.prog w = .ok (.agg #[v]) w := by
  have q0 := b.cell 0
  simp only [List.getElem?_toArray, List.getElem?_cons_zero] at q0
  simp [go_sem, q0]

set_option maxHeartbeats 4000000 in
set_option maxRecDepth 100000 in
theorem kit_Annulus (l : List Int) (A : Option Addr) (c : Nat) (w : World) (hl : Ints w w.heap.size A l) (hin : IntsIn l) (hm : l.length ≤ maxLen) :
    Calls Try.prog 18 #[.slice A l.length c] w fun e w' => (∃ A' c' h, e = .returned (.agg #[.slice A' h.length c']) ∧ w'.ownsRow w.heap.size 29 4 (.slice A' h.length c') h.length (h.flatMap segC) ∧ Annular h) ∧ Below w.heap.size w w' := by
  have HP := Lib.hid (fun W (hW : Below w.heap.size w W) k (hk : k ≤ 1000) => kit_pick l A c k W (hl.up hW hW.size) hin hk hm)
  have hb := Lib.hid (kitPick_bounds l)
  clear hl hin
  unfold maxLen at hm
  generalize kitPick l = f at *
  generalize l.length = n at *
  obtain ⟨i0, hi0, hz0, hz1, hz2⟩ := info_parts info_Seg
  obtain ⟨w0, hw0⟩ : ∃ w0, ((w.alloc (.cells #[.slice none 0 0] 25)).alloc (.cells #[.slice none 0 0] 25)) = w0 := ⟨_, rfl⟩
  have b0 : Box w0 w.heap.size 25 #[.slice none 0 0] := by rw [← hw0]; exact (Box.new w _ _ rfl).alloc _
  have b1 : Box w0 (w.heap.size + 1) 25 #[.slice none 0 0] := by rw [← hw0]; exact Box.new _ _ _ (by simp)
  have hB0 : Below w.heap.size w w0 := by rw [← hw0]; exact (by repeat (first | exact Below.refl _ _ | assumption | refine Below.setCell ?_ (by first | (simp; done) | (simp; omega)) _ | refine belowDrewN ?_ _ | refine Below.drew ?_ | refine Below.alloc ?_ (by first | (simp; done) | (simp; omega)) _))
  have hs0 : w0.heap.size = w.heap.size + 1 + 1 := by rw [← hw0]; simp
  have HS0 := Lib.hid hs0
  have HW0 := Lib.hid hw0
  clear hw0 hs0
  obtain ⟨mn, hmn⟩ : ∃ c : Nat, c = min n 5 := ⟨_, rfl⟩
  obtain ⟨cnt, hcnt⟩ : ∃ c : Nat, c = max 1 mn := ⟨_, rfl⟩
  have HE1 := Lib.hid (show (if (5 : Int) < (n : Int) then (5 : Int) else (n : Int)) = (mn : Int) by split <;> omega)
  have HE2 := Lib.hid (show (if (1 : Int) < (mn : Int) then (mn : Int) else (1 : Int)) = (cnt : Int) by split <;> omega)
  have hc1 : 1 ≤ cnt := by omega
  have hc3 : cnt ≤ 5 := by omega
  clear hcnt hmn
  go_enter Try.func18, Try.ntmps18
  go_wp2_with fail
  rw [HW0.out]
  go_loopw [4] (fun s4 wr => ∃ (k : Nat) (ks : List Seg) (v : Value), k ≤ cnt ∧ s4 = .int .i64 k ∧ Hid (ks.length = k ∧ ∀ s ∈ ks, SegMade s) ∧ Hid (wr.ownsRow w0.heap.size 29 4 v k (ks.flatMap segC)) ∧ Hid (Box wr (w.heap.size + 1) 25 #[v] ∧ Box wr w.heap.size 25 #[.slice none 0 0]) ∧ Hid (Below w.heap.size w wr) ∧ Hid (w0.heap.size ≤ wr.heap.size)) (fun s4 _ => 6 - (intOf s4).toNat)
  case atStart => exact ⟨0, [], .slice none 0 0, Nat.zero_le _, rfl, ⟨rfl, fun s hs => absurd hs (by simp)⟩, World.ownsRow_nil _ _ _ _, ⟨b1, b0⟩, hB0, Nat.le_refl _⟩
  case round =>
    obtain ⟨k, ks, v, hk, rfl, hks, hown, hbx, BW, hsz⟩ := hrel
    have e1 := HE1.out
    have e2 := HE2.out
    by_cases hlt : k < cnt
    · obtain ⟨r1, r2⟩ := hb.out k
      have g0 := hbx.out.1.cell 0
      have g1 := hbx.out.1.frozen 0
      simp only [List.getElem?_toArray, List.getElem?_cons_zero] at g0
      have hblt := hbx.out.1.lt
      go_wp2_with fail
      refine (HP.out wr BW.out k (by omega)).mono ?_
      rintro e w' ⟨rfl, rfl⟩
      generalize f k = nn at *
      have y1 : IntKind.i64.wrap (nn.tmod 100000) = nn % 100000 := by rw [Int.tmod_eq_emod_of_nonneg r1]; exact IntWalk.i64_in _ (by omega)
      have hmade := madeSeg_made nn r1
      have d0 : 0 ≤ nn % 100000 := by omega
      have d1 : nn % 100000 < 100000 := by omega
      have hz9 : (1 + nn % 100000 + 1 == 0) = false := beq_eq_false_iff_ne.2 (by omega)
      have HMD := Lib.hid hmade
      have hv := Lib.hid (show segC (madeSeg nn) = [.int .i64 (1 + nn % 100000), .int .i64 (nn / 11 % (1 + nn % 100000 + 1)), .int .i64 (1 + nn / 3 % 1500), .int .i64 (1 + nn / 7 % 200)] from rfl)
      go_wp2_with (at_builtin; refine wpList_append_own _ rfl _ _ 23 rfl w0.heap.size 29 i0 (.agg #[.int .i64 0, .int .i64 0, .int .i64 0, .int .i64 0]) 4 32 Try.underlying23 hi0 hz0 hz1 hz2 rfl (by decide) v k (ks.flatMap segC) rfl ((hown.out.alloc _).alloc _) ⟨wr.heap.size + 1, 0, none⟩ 1 1 (segC (madeSeg nn)) rfl rfl ?_ ?_ ?_ ?_ ?_ ?_)
      · rw [hv.out]
        have := cells_new (wr.alloc (.cells #[.int .i64 (1 + nn % 100000), .int .i64 (nn / 11 % (1 + nn % 100000 + 1)), .int .i64 (1 + nn / 3 % 1500), .int .i64 (1 + nn / 7 % 200)] 29)) [.int .i64 (1 + nn % 100000), .int .i64 (nn / 11 % (1 + nn % 100000 + 1)), .int .i64 (1 + nn / 3 % 1500), .int .i64 (1 + nn / 7 % 200)] 29
        simpa using this
      · simp [segC, Value.oneCell']
      · unfold maxLen; omega
      · omega
      · have := hsz.out; simp; omega
      intro v' w1 hown1 hg1 _
      have hB1 := Lib.hid (below_grown (((Below.refl w0.heap.size wr).alloc hsz.out _).alloc (by have := hsz.out; simp; omega) _) ((hown.out.alloc _).alloc _) hg1 (by have := hsz.out; simp; omega))
      obtain ⟨A2, c2, rfl, _, _⟩ := own_form hown1
      have HO1 := Lib.hid hown1
      clear hown1 hg1 g0 g1
      have c1 := hbx.out.1.below hB1.out (by rw [HS0.out]; omega)
      have c0 := hbx.out.2.below hB1.out (by rw [HS0.out]; omega)
      have BW1 := BW.out.trans (hB1.out.mono hB0.size)
      have HC1 := Lib.hid c1
      have HC0 := Lib.hid c0
      have g0 := c1.cell 0
      have g1 := c1.frozen 0
      simp only [List.getElem?_toArray, List.getElem?_cons_zero] at g0
      clear c1 c0
      go_wp2_with fail
      go_roundw
      case rel =>
        refine ⟨k + 1, ks ++ [madeSeg nn], .slice A2 (k + 1) c2, hlt, by go_num, ⟨by rw [List.length_append, hks.out.1]; rfl, fun s hs => ?_⟩, ?_, ⟨?_, ?_⟩, ?_, ?_⟩
        · rcases List.mem_append.1 hs with hs | hs
          · exact hks.out.2 s hs
          · rw [List.mem_singleton.1 hs]; exact HMD.out
        · have := own_far (p := ⟨w.heap.size + 1, 0, none⟩) HO1.out (by rw [HS0.out]; simp) (.slice A2 (k + 1) c2)
          unfold Hid
          rw [List.flatMap_append]
          simpa using this
        · have := HC1.out.set_ 0 (.slice A2 (k + 1) c2)
          simpa using this
        · exact HC0.out.far (by simp) _
        · exact BW1.setCell (p := ⟨w.heap.size + 1, 0, none⟩) (by simp) _
        · have h1 := hB1.out.size
          have h2 := hsz.out
          simp [Hid]
          omega
      case measure => simp [intOf]; omega
    · obtain rfl : k = cnt := by omega
      have hkn := own_far (p := ⟨w.heap.size, 0, none⟩) hown.out (by rw [HS0.out]; simp; omega) v
      rw [← hks.out.1] at hkn
      obtain ⟨A', c', rfl, _, _⟩ := own_form hkn
      have HKN := Lib.hid hkn
      clear hkn
      have g0 := hbx.out.1.cell 0
      have g2 := hbx.out.2.cell 0
      have g3 := hbx.out.2.frozen 0
      simp only [List.getElem?_toArray, List.getElem?_cons_zero] at g0 g2
      go_wp2_with fail
      have e0 := hbx.out.2.set_ 0 (.slice A' ks.length c')
      refine bodyPost_ret (results_cell1 rfl _ _ _ w.heap.size (.agg #[.slice A' ks.length c']) rfl (load_one (t := 25) (by simpa using e0))) rfl ?_
      refine ⟨⟨A', c', ks, rfl, ?_, ⟨by rw [hks.out.1]; omega, by rw [hks.out.1]; omega, hks.out.2⟩⟩, BW.out.setCell (p := ⟨w.heap.size, 0, none⟩) (Nat.le_refl _) _⟩
      exact own_le HKN.out (by rw [HS0.out]; omega)

end Go.Proofs.Ytgcfplkfclapiaa

/- Walks of the reference of layer 3: holes. -/
namespace Mpl
/-- the sum of lengths, each capped -/
def capUp (l : List Seg) (k : Nat) : Int := sumFrom (fun i => min (longAt l i) 1048577) 0 k
theorem capUp_step (l : List Seg) (k : Nat) : capUp l (k + 1) = capUp l k + min (sg l k).Long 1048577 := up_step _ k
theorem capUp_spec (l : List Seg) (k : Nat) (h : ∀ i, i < k → GoodSeg (sg l i)) : 0 ≤ capUp l k ∧ capUp l k ≤ k * 1048577 ∧ (capUp l k = longUp l k ∨ 1048577 ≤ capUp l k) ∧ capUp l k ≤ longUp l k := by
  induction k with
  | zero => simp [capUp, longUp, sumFrom]
  | succ k ih =>
    have i := ih fun i hi => h i (by omega)
    have g := (h k (by omega)).long
    rw [capUp_step, longUp_step]
    omega
end Mpl
namespace Go.Proofs.Ytgcfplkfclapiaa
open Go.RowKit Go.Shelf Mpl

theorem hole_box {w : World} {g t : Nat} {v : Value} (h : Box w g t #[v]) : w.cell? ⟨g, 0, none⟩ = some v := h.cell 0

set_option maxHeartbeats 4000000 in
set_option maxRecDepth 100000 in
theorem refHole_loop (l : List Seg) (b off c : Nat) (w : World) (hb : b < w.heap.size) (hc : ∀ i, i < l.length → w.cell? ⟨b, off + i * 4, none⟩ = some (.int .i64 (sg l i).Long) ∧ w.cell? ⟨b, off + i * 4 + 1, none⟩ = some (.int .i64 (sg l i).Rise) ∧
      w.cell? ⟨b, off + i * 4 + 2, none⟩ = some (.int .i64 (sg l i).Area) ∧ w.cell? ⟨b, off + i * 4 + 3, none⟩ = some (.int .i64 (sg l i).Gap)) (h0 : 0 < l.length) (h16 : l.length ≤ 16) :
    Calls Try.prog 28 #[.agg #[.slice (some ⟨b, off, none⟩) l.length c]] w fun e w' => e = .returned (.int .i64 (checkHole l)) ∧ Below w.heap.size w w' := by
  have HC := Lib.hid hc
  have hany : (∃ i, i < l.length ∧ ¬ GoodSeg (sg l i)) → checkHole l = 2 := fun ⟨i, hi, hf⟩ => by
    unfold checkHole
    rw [if_neg (by omega), if_neg (by omega), if_pos]
    rw [List.any_eq_true]
    refine ⟨l[i], List.getElem_mem hi, ?_⟩
    have : sg l i = l[i] := by simp [sg, hi]
    rw [this, ← fairSeg_iff] at hf
    simpa using hf
  have hall : (∀ i, i < l.length → GoodSeg (sg l i)) → checkHole l = if 1048576 < capUp l l.length then 5 else 0 := fun hg => by
    have hs := capUp_spec l l.length hg
    unfold checkHole
    rw [if_neg (by omega), if_neg (by omega), if_neg (by rw [(any_seg l).2 hg]; simp)]
    by_cases h : 1048576 < longUp l l.length
    · rw [if_pos h, if_pos (by omega)]
    · rw [if_neg h, if_neg (by omega)]
  have HANY := Lib.hid hany
  have HALL := Lib.hid hall
  clear hc hany hall
  generalize hn : l.length = n at *
  have HN := Lib.hid hn
  clear hn
  generalize hres : checkHole l = res at *
  clear hres
  have hz : ((n : Int) == 0) = false := beq_eq_false_iff_ne.2 (by omega)
  have hz2 : decide ((16 : Int) < (n : Int)) = false := decide_eq_false (by omega)
  have hz2' : decide (16 < n) = false := decide_eq_false (by omega)
  have hB0 : Below w.heap.size w (w.alloc (.cells #[.slice (some ⟨b, off, none⟩) n c] 25)) := (by repeat (first | exact Below.refl _ _ | assumption | refine Below.setCell ?_ (by first | (simp; done) | (simp; omega)) _ | refine belowDrewN ?_ _ | refine Below.drew ?_ | refine Below.alloc ?_ (by first | (simp; done) | (simp; omega)) _))
  have b0 : Box (w.alloc (.cells #[.slice (some ⟨b, off, none⟩) n c] 25)) w.heap.size 25 #[.slice (some ⟨b, off, none⟩) n c] := Box.new _ _ _ rfl
  have HB0 := Lib.hid hB0
  have BX0 := Lib.hid b0
  clear hB0 b0
  go_enter Try.func28, Try.ntmps28
  go_wp2_with fail
  go_loopw [3, 4] (fun s3 s4 wr => ∃ (k : Nat), k ≤ n ∧ s4 = .int .i64 k ∧ s3 = .int .i64 (capUp l k) ∧ Hid (∀ i, i < k → GoodSeg (sg l i)) ∧ Hid (Box wr w.heap.size 25 #[.slice (some ⟨b, off, none⟩) n c]) ∧ Hid (Below w.heap.size w wr)) (fun _ s4 _ => n - (intOf s4).toNat)
  case atStart => exact ⟨0, Nat.zero_le _, rfl, rfl, fun i hi => absurd hi (by omega), BX0, HB0⟩
  case round =>
    obtain ⟨k, hk, rfl, rfl, hf, BX, BW⟩ := hrel
    have hsz := BW.out.size
    have q0 := hole_box BX.out
    by_cases hlt : k < n
    · obtain ⟨c0, c1, c2, c3⟩ := HC.out k hlt
      have t0 : decide (k < n) = true := decide_eq_true hlt
      have d0 := oldCell BW.out hb c0
      have d1 := oldCell BW.out hb c1
      have d2 := oldCell BW.out hb c2
      have d3 := oldCell BW.out hb c3
      have hbw : b < wr.heap.size := by omega
      clear c0 c1 c2 c3
      have hst := Lib.hid (capUp_step l k)
      have hcs := capUp_spec l k hf.out
      obtain ⟨s0, s1, _, _⟩ := hcs
      have hone := Lib.hid (show ¬ GoodSeg (sg l k) → res = 2 from fun h => HANY.out ⟨k, hlt, h⟩)
      have hx : Hid (GoodSeg (sg l k) → (∀ i, i < k + 1 → GoodSeg (sg l i))) := fun h i hi => by
        by_cases e : i = k
        · rw [e]; exact h
        · exact hf.out i (by omega)
      generalize hSk : capUp l k = S at *
      generalize hS1 : capUp l (k + 1) = S1 at *
      have HS1 := Lib.hid hS1
      clear hSk hS1
      generalize sg l k = s at *
      have BA := Lib.hid (BW.out.alloc hsz (.cells #[.int .i64 s.Long, .int .i64 s.Rise, .int .i64 s.Area, .int .i64 s.Gap] 29))
      by_cases g1 : s.Long < 1
      · have e1 : decide (s.Long < 1) = true := decide_eq_true g1
        have hr := Lib.hid (hone.out fun h => by have := h.long; omega)
        go_wp2_with fail
        go_ret
        exact ⟨ret_int hr.out.symm, BA.out⟩
      have e1 : decide (s.Long < 1) = false := decide_eq_false g1
      by_cases g2 : s.Rise < 0
      · have e2 : decide (s.Rise < 0) = true := decide_eq_true g2
        have hr := Lib.hid (hone.out fun h => by have := h.rise0; omega)
        go_wp2_with fail
        go_ret
        exact ⟨ret_int hr.out.symm, BA.out⟩
      have e2 : decide (s.Rise < 0) = false := decide_eq_false g2
      by_cases g3 : s.Long < s.Rise
      · have e3 : decide (s.Long < s.Rise) = true := decide_eq_true g3
        have hr := Lib.hid (hone.out fun h => by have := h.rise1; omega)
        go_wp2_with fail
        go_ret
        exact ⟨ret_int hr.out.symm, BA.out⟩
      have e3 : decide (s.Long < s.Rise) = false := decide_eq_false g3
      by_cases g4 : s.Area < 1
      · have e4 : decide (s.Area < 1) = true := decide_eq_true g4
        have hr := Lib.hid (hone.out fun h => by have := h.area0; omega)
        go_wp2_with fail
        go_ret
        exact ⟨ret_int hr.out.symm, BA.out⟩
      have e4 : decide (s.Area < 1) = false := decide_eq_false g4
      by_cases g5 : 5000 < s.Area
      · have e5 : decide (5000 < s.Area) = true := decide_eq_true g5
        have hr := Lib.hid (hone.out fun h => by have := h.area1; omega)
        go_wp2_with fail
        go_ret
        exact ⟨ret_int hr.out.symm, BA.out⟩
      have e5 : decide (5000 < s.Area) = false := decide_eq_false g5
      by_cases g6 : s.Gap < 1
      · have e6 : decide (s.Gap < 1) = true := decide_eq_true g6
        have hr := Lib.hid (hone.out fun h => by have := h.gap0; omega)
        go_wp2_with fail
        go_ret
        exact ⟨ret_int hr.out.symm, BA.out⟩
      have e6 : decide (s.Gap < 1) = false := decide_eq_false g6
      by_cases g7 : 200 < s.Gap
      · have e7 : decide (200 < s.Gap) = true := decide_eq_true g7
        have hr := Lib.hid (hone.out fun h => by have := h.gap1; omega)
        go_wp2_with fail
        go_ret
        exact ⟨ret_int hr.out.symm, BA.out⟩
      have e7 : decide (200 < s.Gap) = false := decide_eq_false g7
      have HX := Lib.hid (hx.out ⟨by omega, by omega, by omega, by omega, by omega, by omega, by omega⟩)
      obtain ⟨m, hm⟩ : ∃ m, (if (1048577 : Int) < s.Long then (1048577 : Int) else s.Long) = m := ⟨_, rfl⟩
      have hm1 : m = min s.Long 1048577 := by rw [← hm]; split <;> omega
      have HST := Lib.hid (show S1 = S + m by rw [hst.out, hm1])
      have hm0 : 0 ≤ m ∧ m ≤ 1048577 := by omega
      obtain ⟨m0, m1⟩ := hm0
      have BX1 := Lib.hid (BX.out.alloc (.cells #[.int .i64 s.Long, .int .i64 s.Rise, .int .i64 s.Area, .int .i64 s.Gap] 29))
      clear hone hx hst hm1
      go_wp2_with fail
      go_roundw
      case rel => exact ⟨k + 1, hlt, by go_num, by rw [HS1.out, HST.out], HX, BX1, BA⟩
      case measure => simp [intOf]; omega
    · obtain rfl : k = n := by omega
      have hr := Lib.hid (HALL.out hf.out)
      have t0 : decide (k < k) = false := decide_eq_false hlt
      by_cases hl : 1048576 < capUp l k
      · rw [if_pos hl] at hr
        have e1 : decide (1048576 < capUp l k) = true := decide_eq_true hl
        go_wp2_with fail
        go_ret
        exact ⟨ret_int hr.out.symm, BW.out⟩
      · rw [if_neg hl] at hr
        have e1 : decide (1048576 < capUp l k) = false := decide_eq_false hl
        go_wp2_with fail
        go_ret
        exact ⟨ret_int hr.out.symm, BW.out⟩

set_option maxHeartbeats 1000000 in
theorem ref03_CheckHole (v0 : Value) (l : List Seg) (w : World) (hv : HoleV w w.heap.size v0 l) :
    Calls Try.prog 28 #[v0] w fun e w' => e = .returned (.int .i64 (checkHole l)) ∧ Below w.heap.size w w' := by
  obtain ⟨A, c, rfl, hk⟩ := hv
  by_cases h0 : l.length = 0
  · have hs : Hid (checkHole l = 6) := by simp [checkHole, h0, Hid]
    rw [h0]
    have hz : (((0 : Nat) : Int) == 0) = true := by simp
    clear h0 hk
    go_enter Try.func28, Try.ntmps28
    go_wp2_with fail
    go_ret
    exact ⟨ret_int hs.out.symm, (by repeat (first | exact Below.refl _ _ | assumption | refine Below.setCell ?_ (by first | (simp; done) | (simp; omega)) _ | refine belowDrewN ?_ _ | refine Below.drew ?_ | refine Below.alloc ?_ (by first | (simp; done) | (simp; omega)) _))⟩
  · by_cases h16 : 16 < l.length
    · have hs : Hid (checkHole l = 8) := by simp [checkHole, h0, h16, Hid]
      clear hk
      generalize l.length = n at *
      have hz : ((n : Int) == 0) = false := beq_eq_false_iff_ne.2 (by omega)
      have hz2 : decide ((16 : Int) < (n : Int)) = true := decide_eq_true (by omega)
      go_enter Try.func28, Try.ntmps28
      go_wp2_with fail
      go_ret
      exact ⟨ret_int hs.out.symm, (by repeat (first | exact Below.refl _ _ | assumption | refine Below.setCell ?_ (by first | (simp; done) | (simp; omega)) _ | refine belowDrewN ?_ _ | refine Below.drew ?_ | refine Below.alloc ?_ (by first | (simp; done) | (simp; omega)) _))⟩
    · obtain ⟨b, off, rfl, hb, hc⟩ := hk (by omega)
      exact refHole_loop l b off c w hb hc (by omega) (by omega)

set_option maxHeartbeats 4000000 in
set_option maxRecDepth 100000 in
theorem ref03_Volume (v0 : Value) (l : List Seg) (w : World) (hv : HoleV w w.heap.size v0 l) :
    Calls Try.prog 29 #[v0] w fun e w' => e = .returned (.int .i64 (volumeOf l)) ∧ Below w.heap.size w w' := by
  have hvv := hv
  obtain ⟨A, c, rfl, hS⟩ := hv
  have HA := hvv.alloc (.cells #[.slice A l.length c] 25)
  have HC := Lib.hid (ref03_CheckHole _ l _ HA)
  have hba : Below w.heap.size w (w.alloc (.cells #[.slice A l.length c] 25)) := (Below.refl _ _).alloc (Nat.le_refl _) _
  have b0 : Box (w.alloc (.cells #[.slice A l.length c] 25)) w.heap.size 25 #[.slice A l.length c] := Box.new _ _ _ rfl
  have HB := Lib.hid b0
  have HBA := Lib.hid hba
  have hd : Hid (volumeOf l = if checkHole l = 0 then sizeUp l l.length else 0) := rfl
  have hi := Lib.hid (checkHole_iff l)
  clear hvv HA hba b0
  by_cases h0 : checkHole l = 0
  · have hg := hi.out.1 h0
    have HG := Lib.hid hg
    obtain ⟨b, off, rfl, hb, hc⟩ := hS hg.pos
    have HCC := Lib.hid hc
    have hfew := hg.few
    rw [h0] at HC
    rw [if_pos h0] at hd
    clear h0 hS hc hg hi
    generalize hn : l.length = n at *
    have HN := Lib.hid hn
    clear hn
    generalize volumeOf l = res at *
    go_enter Try.func29, Try.ntmps29
    go_wp2_with fail
    refine HC.out.mono ?_
    rintro e w1 ⟨rfl, hb1⟩
    have BX1 := Lib.hid (HB.out.under hb1)
    have HB1 := Lib.hid (HBA.out.trans (hb1.mono HBA.out.size))
    clear hb1
    go_wp2_with fail
    go_loopw [3, 4] (fun s3 s4 wr => ∃ (k : Nat), k ≤ n ∧ s4 = .int .i64 k ∧ s3 = .int .i64 (sizeUp l k) ∧ Hid (Box wr w.heap.size 25 #[.slice (some ⟨b, off, none⟩) n c]) ∧ Hid (Below w.heap.size w wr)) (fun _ s4 _ => n - (intOf s4).toNat)
    case atStart => exact ⟨0, Nat.zero_le _, rfl, rfl, BX1, HB1⟩
    case round =>
      obtain ⟨k, hk, rfl, rfl, BX, BW⟩ := hrel
      have hsz := BW.out.size
      have q0 := hole_box BX.out
      by_cases hlt : k < n
      · obtain ⟨c0, c1, c2, c3⟩ := HCC.out k hlt
        have t0 : decide (k < n) = true := decide_eq_true hlt
        have d0 := oldCell BW.out hb c0
        have d2 := oldCell BW.out hb c2
        have hbw : b < wr.heap.size := by omega
        have hst := Lib.hid (sizeUp_step l k)
        have hu := HG.out.ups k (by rw [HN.out]; omega)
        obtain ⟨_, _, _, _, u5, u6⟩ := hu
        have hs2 := HG.out.seg (k := k) (by rw [HN.out]; exact hlt)
        obtain ⟨_, z1, z2⟩ := hs2
        have hse : Hid (segSize (sg l k) = (sg l k).Long * (sg l k).Area) := rfl
        clear c0 c1 c2 c3
        generalize hSk : sizeUp l k = S at *
        generalize hS1 : sizeUp l (k + 1) = S1 at *
        have HS1 := Lib.hid hS1
        clear hSk hS1
        generalize segSize (sg l k) = z at *
        generalize sg l k = s at *
        have hw1 : IntKind.i64.wrap (s.Long * s.Area) = z := by rw [← hse.out]; exact IntWalk.i64_in _ (by omega)
        have hw2 : IntKind.i64.wrap (S + z) = S + z := IntWalk.i64_in _ (by omega)
        have b1 : (k : Int) < (n : Int) := by omega
        have b2 : (0 : Int) ≤ (k : Int) := by omega
        go_wp2_with fail
        go_quiet (fail)
        go_wp2_with fail
        go_roundw
        case rel => exact ⟨k + 1, hlt, by go_num, by rw [HS1.out, hst.out], BX.out.drewN _, belowDrewN BW.out _⟩
        case measure => simp [intOf]; omega
      · obtain rfl : k = n := by omega
        have t0 : decide (k < k) = false := decide_eq_false hlt
        go_wp2_with fail
        go_ret
        exact ⟨ret_int hd.out.symm, BW.out⟩
  · rw [if_neg h0] at hd
    have hz : (checkHole l != 0) = true := by simpa using h0
    clear h0 hS
    generalize checkHole l = ch at *
    generalize l.length = n at *
    go_enter Try.func29, Try.ntmps29
    go_wp2_with fail
    refine HC.out.mono ?_
    rintro e w1 ⟨rfl, hb1⟩
    go_wp2_with fail
    go_ret
    exact ⟨ret_int hd.out.symm, HBA.out.trans (hb1.mono HBA.out.size)⟩

end Go.Proofs.Ytgcfplkfclapiaa

/- Walks of the package fluid: the least gradient of a flow. -/
namespace Go.Proofs.Ytgcfplkfclapiaa
open Go.RowKit Go.Shelf Mpl

theorem bsearch_step (f : Int → Bool) (n : Nat) (lo hi : Int) (h : lo < hi) : bsearch f (n + 1) lo hi = if f ((lo + hi) / 2) then bsearch f n lo ((lo + hi) / 2) else bsearch f n ((lo + hi) / 2 + 1) hi := by
  rw [bsearch, if_pos h]
theorem bsearch_end (f : Int → Bool) (n : Nat) (lo hi : Int) (h : ¬ lo < hi) : bsearch f n lo hi = lo := by
  cases n with
  | zero => rfl
  | succ n => rw [bsearch, if_neg h]

set_option maxHeartbeats 2000000 in
theorem fluid_first (g : Nat) (lb : Array Value) (eg : ∀ args w, (callFunc g args).run Try.prog w = .ok (.enter g args) w) (f : Int → Bool) (w : World)
    (hp : ∀ x, 0 ≤ x → x ≤ 20000 → ∀ W, Below w.heap.size w W → Calls Try.prog g (#[.int .i64 x] ++ lb) W fun e W' => e = .returned (.bool (f x)) ∧ Below W.heap.size W W') :
    Calls Try.prog 77 #[.int .i64 0, .int .i64 20000, .func (.func g) #[] lb] w fun e w' => e = .returned (.int .i64 (bsearch f 20000 0 20000)) ∧ Below w.heap.size w w' := by
  generalize hres : bsearch f 20000 0 20000 = res
  have HR := Lib.hid hres
  clear hres
  have HP := Lib.hid hp
  clear hp
  have HS := Lib.hid (fun n lo hi h => bsearch_step f n lo hi h)
  have HE := Lib.hid (fun n lo hi h => bsearch_end f n lo hi h)
  go_enter Try.func77, Try.ntmps77
  go_wp2_with fail
  go_loopw [0, 1] (fun s0 s1 wr => ∃ (n : Nat) (lo hi : Int), s0 = .int .i64 lo ∧ s1 = .int .i64 hi ∧ 0 ≤ lo ∧ lo ≤ hi ∧ hi ≤ 20000 ∧ hi - lo ≤ n ∧ Hid (bsearch f n lo hi = res) ∧ Hid (Below w.heap.size w wr)) (fun s0 s1 _ => (intOf s1 - intOf s0).toNat)
  case atStart => exact ⟨20000, 0, 20000, rfl, rfl, by omega, by omega, by omega, by omega, HR, Below.refl _ _⟩
  case round =>
    obtain ⟨n, lo, hi, rfl, rfl, h0, h1, h2, h3, hr, BW⟩ := hrel
    by_cases hlt : lo < hi
    · have t0 : decide (lo < hi) = true := decide_eq_true hlt
      obtain ⟨m, rfl⟩ : ∃ m, n = m + 1 := ⟨n - 1, by omega⟩
      have hs := Lib.hid (HS.out m lo hi hlt)
      have HC := Lib.hid (HP.out ((lo + hi) / 2) (by omega) (by omega) _ BW.out)
      have k1 : lo ≤ (lo + hi) / 2 := by omega
      have k2 : (lo + hi) / 2 < hi := by omega
      cases hq : f ((lo + hi) / 2)
      · rw [hq] at HC hs
        have hn : Hid (bsearch f m ((lo + hi) / 2 + 1) hi = res) := by unfold Hid; rw [← hr.out, hs.out]; rfl
        go_wp2_with (go_at_fn g; refine HC.out.mono ?_; rintro e w' ⟨rfl, hb'⟩)
        go_roundw
        case rel => exact ⟨m, _, _, rfl, rfl, by omega, by omega, by omega, by omega, hn, BW.out.trans (hb'.mono BW.out.size)⟩
        case measure => simp [intOf]; omega
      · rw [hq] at HC hs
        have hn : Hid (bsearch f m lo ((lo + hi) / 2) = res) := by unfold Hid; rw [← hr.out, hs.out]; rfl
        go_wp2_with (go_at_fn g; refine HC.out.mono ?_; rintro e w' ⟨rfl, hb'⟩)
        go_roundw
        case rel => exact ⟨m, _, _, rfl, rfl, by omega, by omega, by omega, by omega, hn, BW.out.trans (hb'.mono BW.out.size)⟩
        case measure => simp [intOf]; omega
    · have t0 : decide (lo < hi) = false := decide_eq_false hlt
      have he := Lib.hid (HE.out n lo hi (by omega))
      go_wp2_with fail
      go_ret
      exact ⟨ret_int (by rw [← hr.out, he.out]), BW.out⟩

theorem enters_Gradient1 : ∀ args w, (callFunc 78 args).run Try.prog w = .ok (.enter 78 args) w := enters_of Try.func78 (by kernel_rfl) rfl

set_option maxHeartbeats 1000000 in
set_option maxRecDepth 100000 in
theorem fluid_Gradient1 (s : Seg) (m : Mud) (g flow : Int) (gs gm gf : Nat) (w : World) (hs : Box w gs 29 #[.int .i64 s.Long, .int .i64 s.Rise, .int .i64 s.Area, .int .i64 s.Gap]) (hm : Box w gm 47 #[.int .i64 m.Yield, .int .i64 m.Visc]) (hf : Box w gf 2 #[.int .i64 flow])
    (hg : GoodSeg s) (hmu : MudIn m flow) (h0 : 0 ≤ g) (h1 : g ≤ 20000) :
    Calls Try.prog 78 #[.int .i64 g, .pointer (some ⟨gs, 0, none⟩), .pointer (some ⟨gm, 0, none⟩), .pointer (some ⟨gf, 0, none⟩)] w fun e w' => e = .returned (.bool (flowsG s m g flow)) ∧ Below w.heap.size w w' := by
  have HF := Lib.hid (fluid_flows s m g flow w hg hmu h0 h1)
  obtain ⟨c0, c1, c2, c3⟩ := load_agg4 hs
  obtain ⟨q4, q5⟩ := mud_box hm
  have q6 := (show w.cell? ⟨gf, 0, none⟩ = some (.int .i64 flow) from hf.cell 0)
  have l1 := hs.lt
  have l2 := hm.lt
  have l3 := hf.lt
  unfold segV mudV at *
  clear hs hm hf hg hmu
  go_enter Try.func78, Try.ntmps78
  go_wp2_with fail
  refine HF.out.mono ?_
  rintro e w1 ⟨rfl, hb⟩
  go_wp2_with fail
  go_ret
  exact ⟨rfl, hb⟩

set_option maxHeartbeats 1000000 in
set_option maxRecDepth 100000 in
theorem fluid_Gradient (s : Seg) (m : Mud) (flow : Int) (w : World) :
    Calls Try.prog 37 #[segV s, mudV m, .int .i64 flow] w fun e w' => e = .returned (.tuple #[.int .i64 (gradient s m flow).1, .bool (gradient s m flow).2]) ∧ Below w.heap.size w w' := by
  have HF := Lib.hid (fun W => fluid_Flows s m 20000 flow W)
  have hd : Hid (gradient s m flow = if possible s m flow && flowsG s m 20000 flow then (bsearch (fun g => flowsG s m g flow) 20000 0 20000, true) else (0, false)) := rfl
  have hfl : flows s m 20000 flow = (possible s m flow && flowsG s m 20000 flow) := by unfold flows; simp [within]
  obtain ⟨w0, hw0⟩ : ∃ w0, ((w.alloc (.cells #[.int .i64 s.Long, .int .i64 s.Rise, .int .i64 s.Area, .int .i64 s.Gap] 29)).alloc (.cells #[.int .i64 m.Yield, .int .i64 m.Visc] 47)).alloc (.cells #[.int .i64 flow] 2) = w0 := ⟨_, rfl⟩
  have bs : Box w0 w.heap.size 29 #[.int .i64 s.Long, .int .i64 s.Rise, .int .i64 s.Area, .int .i64 s.Gap] := by rw [← hw0]; exact ((Box.new w _ _ rfl).alloc _).alloc _
  have bm : Box w0 (w.heap.size + 1) 47 #[.int .i64 m.Yield, .int .i64 m.Visc] := by rw [← hw0]; exact (Box.new _ _ _ (by simp)).alloc _
  have bf : Box w0 (w.heap.size + 1 + 1) 2 #[.int .i64 flow] := by rw [← hw0]; exact Box.new _ _ _ (by simp)
  have hB0 : Below w.heap.size w w0 := by rw [← hw0]; exact (by repeat (first | exact Below.refl _ _ | assumption | refine Below.setCell ?_ (by first | (simp; done) | (simp; omega)) _ | refine belowDrewN ?_ _ | refine Below.drew ?_ | refine Below.alloc ?_ (by first | (simp; done) | (simp; omega)) _))
  have HW0 := Lib.hid hw0
  have BS := Lib.hid bs
  have BM := Lib.hid bm
  have BF := Lib.hid bf
  have HB0 := Lib.hid hB0
  obtain ⟨c0, c1, c2, c3⟩ := load_agg4 bs
  obtain ⟨q4, q5⟩ := mud_box bm
  have q6 := (show w0.cell? ⟨w.heap.size + 1 + 1, 0, none⟩ = some (.int .i64 flow) from bf.cell 0)
  clear hw0 bs bm bf hB0
  cases hp : flows s m 20000 flow
  · have hs : Hid (gradient s m flow = (0, false)) := by unfold Hid; rw [hd.out, ← hfl, hp]; rfl
    rw [hp] at HF
    clear hd hfl hp
    unfold segV mudV at *
    generalize gradient s m flow = res at *
    go_enter Try.func37, Try.ntmps37
    go_wp2_with fail
    rw [HW0.out]
    go_wp2_with fail
    refine (HF.out _).mono ?_
    rintro e w1 ⟨rfl, hb1⟩
    go_wp2_with fail
    go_ret2
    exact ⟨by rw [hs.out]; rfl, HB0.out.trans (hb1.mono HB0.out.size)⟩
  · have hs : Hid (gradient s m flow = (bsearch (fun g => flowsG s m g flow) 20000 0 20000, true)) := by unfold Hid; rw [hd.out, ← hfl, hp]; rfl
    rw [hp] at hfl
    have hpos : possible s m flow = true := by revert hfl; cases possible s m flow <;> simp
    have hpi := (possible_iff s m flow).1 hpos
    have HG := Lib.hid hpi.1.1
    have HM := Lib.hid hpi.2
    rw [hp] at HF
    have HC := Lib.hid (fun W (hW : Below w0.heap.size w0 W) => fluid_first 78 #[.pointer (some ⟨w.heap.size, 0, none⟩), .pointer (some ⟨w.heap.size + 1, 0, none⟩), .pointer (some ⟨w.heap.size + 1 + 1, 0, none⟩)] enters_Gradient1 (fun g => flowsG s m g flow) W
      (fun x h0 h1 W' hW' => fluid_Gradient1 s m x flow _ _ _ W' ((BS.out.under hW).under hW') ((BM.out.under hW).under hW') ((BF.out.under hW).under hW') HG.out HM.out h0 h1))
    clear hd hfl hp hpi hpos
    unfold segV mudV at *
    generalize gradient s m flow = res at *
    generalize bsearch (fun g => flowsG s m g flow) 20000 0 20000 = bb at *
    go_enter Try.func37, Try.ntmps37
    go_wp2_with fail
    rw [HW0.out]
    go_wp2_with fail
    refine (HF.out _).mono ?_
    rintro e w1 ⟨rfl, hb1⟩
    have HC1 := Lib.hid (HC.out w1 hb1)
    go_wp2_with fail
    refine HC1.out.mono ?_
    rintro e w2 ⟨rfl, hb2⟩
    go_wp2_with fail
    go_ret2
    have h1 := HB0.out.trans (hb1.mono HB0.out.size)
    exact ⟨by rw [hs.out]; rfl, h1.trans (hb2.mono h1.size)⟩

end Go.Proofs.Ytgcfplkfclapiaa

/- Walks of the package fluid: the loss above a place. -/
namespace Mpl
theorem above_bound {h : List Seg} (hg : GoodHole h) (u : Int) {k : Nat} (hk : k < h.length) : 0 ≤ aboveSeg h u k ∧ aboveSeg h u k ≤ segSize (sg h k) := by
  have := (hg.seg hk).2.1
  unfold aboveSeg
  omega
theorem upDiv_exact {a b n : Int} (hb : 1 ≤ b) (ha : a ≤ n * b) : upDiv a b ≤ n := by
  unfold upDiv
  have h1 : a + b - 1 < (n + 1) * b := by rw [Int.add_mul]; omega
  have h2 := (Int.ediv_lt_iff_lt_mul (show 0 < b by omega)).2 h1
  omega
theorem loss_step {h : List Seg} (hg : GoodHole h) (m : Mud) (flow u : Int) {k : Nat} (hk : k < h.length) :
    0 ≤ aboveSeg h u k / (sg h k).Area ∧ aboveSeg h u k / (sg h k).Area ≤ (sg h k).Long ∧ 0 ≤ upDiv (aboveSeg h u k) (sg h k).Area ∧ upDiv (aboveSeg h u k) (sg h k).Area ≤ (sg h k).Long ∧
    0 ≤ lossLo h m flow u k ∧ lossLo h m flow u k ≤ 20000 * (sg h k).Long ∧ 0 ≤ lossHi h m flow u k ∧ lossHi h m flow u k ≤ 20000 * (sg h k).Long := by
  have ha := above_bound hg u hk
  have hf := hg.fair k hk
  have h0 := hf.area0
  have hl := hf.long
  have hgr := grad_nonneg (sg h k) m flow
  unfold segSize at ha
  have a1 : 0 ≤ aboveSeg h u k / (sg h k).Area := Int.ediv_nonneg ha.1 (by omega)
  have a2 : aboveSeg h u k / (sg h k).Area ≤ (sg h k).Long := Int.ediv_le_of_le_mul (by omega) ha.2
  have a3 : 0 ≤ upDiv (aboveSeg h u k) (sg h k).Area := Int.ediv_nonneg (by omega) (by omega)
  have a4 : upDiv (aboveSeg h u k) (sg h k).Area ≤ (sg h k).Long := upDiv_exact h0 ha.2
  refine ⟨a1, a2, a3, a4, Int.mul_nonneg hgr.1 a1, ?_, Int.mul_nonneg hgr.1 a3, ?_⟩
  · exact Int.mul_le_mul hgr.2 a2 a1 (by omega)
  · exact Int.mul_le_mul hgr.2 a4 a3 (by omega)
theorem loss_upto {h : List Seg} (hg : GoodHole h) (m : Mud) (flow u : Int) (k : Nat) (hk : k ≤ h.length) :
    0 ≤ sumFrom (lossLo h m flow u) 0 k ∧ sumFrom (lossLo h m flow u) 0 k ≤ 20971520000 ∧ 0 ≤ sumFrom (lossHi h m flow u) 0 k ∧ sumFrom (lossHi h m flow u) 0 k ≤ 20971520000 := by
  have main : ∀ k, k ≤ h.length → 0 ≤ sumFrom (lossLo h m flow u) 0 k ∧ sumFrom (lossLo h m flow u) 0 k ≤ 20000 * longUp h k ∧ 0 ≤ sumFrom (lossHi h m flow u) 0 k ∧ sumFrom (lossHi h m flow u) 0 k ≤ 20000 * longUp h k := by
    intro k
    induction k with
    | zero => intro _; simp [sumFrom, longUp]
    | succ k ih =>
      intro hk
      have i := ih (by omega)
      have s := loss_step hg m flow u (k := k) hk
      rw [up_step, up_step, longUp_step]
      omega
  have h1 := main k hk
  have h2 := (hg.ups k hk).2.1
  omega
theorem lossOf_eq (l : List Seg) (m : Mud) (flow u : Int) (hi : inHole l u = true) (ha : allFlow l m flow l.length = true) : lossOf l m flow u = (⟨sumFrom (lossLo l m flow u) 0 l.length, sumFrom (lossHi l m flow u) 0 l.length⟩, true) := by
  unfold lossOf
  rw [hi, ha]
  rfl
theorem lossOf_not (l : List Seg) (m : Mud) (flow u : Int) (h : inHole l u = false ∨ allFlow l m flow l.length = false) : lossOf l m flow u = (⟨0, 0⟩, false) := by
  unfold lossOf
  rcases h with h | h <;> rw [h] <;> simp
theorem allFlow_step (l : List Seg) (m : Mud) (flow : Int) (k : Nat) : allFlow l m flow (k + 1) = (allFlow l m flow k && (gradient (sg l k) m flow).2) := by
  unfold allFlow
  rw [List.range_succ, List.all_append]
  simp
theorem allFlow_not {l : List Seg} {m : Mud} {flow : Int} {k : Nat} (hk : k < l.length) (h : (gradient (sg l k) m flow).2 = false) : allFlow l m flow l.length = false := by
  unfold allFlow
  rw [List.all_eq_false]
  exact ⟨k, by simpa using hk, by simp [h]⟩
end Mpl
namespace Go.Proofs.Ytgcfplkfclapiaa
open Go.RowKit Go.Shelf Mpl
attribute [local go_sem] Oper.semAt_some

theorem results_loss {fn : Func} {p q : Tmp} (h : fn.results = #[.cell p 34, .cell q 4]) (tmps : Array Value) (w : World) (g g' : Nat) (x y : Int) (b : Bool)
    (hp : tmps.getD p undef = .pointer (some ⟨g, 0, none⟩)) (hq : tmps.getD q undef = .pointer (some ⟨g', 0, none⟩)) (h1 : Box w g 34 #[.int .i64 x, .int .i64 y]) (h2 : Box w g' 4 #[.bool b]) :
    (results fn tmps).run Try.prog w = .ok (.tuple #[.agg #[.int .i64 x, .int .i64 y], .bool b]) w := by
  have q0 := h1.cell 0
  have q1 := h1.cell 1
  have q2 := h2.cell 0
  simp only [List.getElem?_toArray, List.getElem?_cons_zero, List.getElem?_cons_succ] at q0 q1 q2
  simp only [results, h]
  rw [Array.getD_eq_getD_getElem?] at hp hq
  simp [Sem.run_bind, Result.andThen]
  rw [hp, hq]
  simp [go_sem, q0, q1, q2]

set_option maxHeartbeats 8000000 in
set_option maxRecDepth 100000 in
theorem fluid_Loss (v0 : Value) (l : List Seg) (m : Mud) (flow u : Int) (w : World) (hv : HoleV w w.heap.size v0 l) (hin : SegsIn l) (hm : l.length ≤ maxLen) :
    Calls Try.prog 50 #[v0, mudV m, .int .i64 flow, .int .i64 u] w fun e w' => e = .returned (.tuple #[.agg #[.int .i64 (lossOf l m flow u).1.Lo, .int .i64 (lossOf l m flow u).1.Hi], .bool (lossOf l m flow u).2]) ∧ Below w.heap.size w w' := by
  have hvv := hv
  obtain ⟨A, c, rfl, hS⟩ := hv
  obtain ⟨w0, hw0⟩ : ∃ w0, (((((w.alloc (.cells #[.slice A l.length c] 25)).alloc (.cells #[.int .i64 m.Yield, .int .i64 m.Visc] 47)).alloc (.cells #[.int .i64 flow] 2)).alloc (.cells #[.int .i64 u] 2)).alloc (.cells #[.int .i64 0, .int .i64 0] 34)).alloc (.cells #[.bool false] 4) = w0 := ⟨_, rfl⟩
  have hB0 : Below w.heap.size w w0 := by rw [← hw0]; exact (by repeat (first | exact Below.refl _ _ | assumption | refine Below.setCell ?_ (by first | (simp; done) | (simp; omega)) _ | refine belowDrewN ?_ _ | refine Below.drew ?_ | refine Below.alloc ?_ (by first | (simp; done) | (simp; omega)) _))
  have B0 := Lib.hid (show Box w0 w.heap.size 25 #[.slice A l.length c] by rw [← hw0]; exact (((((Box.new w _ _ rfl).alloc _).alloc _).alloc _).alloc _).alloc _)
  have B1 := Lib.hid (show Box w0 (w.heap.size + 1) 47 #[.int .i64 m.Yield, .int .i64 m.Visc] by rw [← hw0]; exact ((((Box.new _ _ _ (by simp)).alloc _).alloc _).alloc _).alloc _)
  have B2 := Lib.hid (show Box w0 (w.heap.size + 1 + 1) 2 #[.int .i64 flow] by rw [← hw0]; exact (((Box.new _ _ _ (by simp)).alloc _).alloc _).alloc _)
  have B3 := Lib.hid (show Box w0 (w.heap.size + 1 + 1 + 1) 2 #[.int .i64 u] by rw [← hw0]; exact ((Box.new _ _ _ (by simp)).alloc _).alloc _)
  have B4 := Lib.hid (show Box w0 (w.heap.size + 1 + 1 + 1 + 1) 34 #[.int .i64 0, .int .i64 0] by rw [← hw0]; exact (Box.new _ _ _ (by simp)).alloc _)
  have B5 := Lib.hid (show Box w0 (w.heap.size + 1 + 1 + 1 + 1 + 1) 4 #[.bool false] by rw [← hw0]; exact Box.new _ _ _ (by simp))
  have HI := Lib.hid (fluid_in _ l u w0 (hvv.below hB0) hin hm)
  have hgood : inHole l u = true → GoodHole l := fun h => (checkHole_iff l).1 (by
    unfold inHole at h
    simp at h
    exact h.1)
  have HW0 := Lib.hid hw0
  have HB0 := Lib.hid hB0
  clear hvv hw0
  have hz0 : ∀ W W', Below w0.heap.size w0 W → W' = W → True := fun _ _ _ _ => trivial
  clear hz0
  have q0 := hole_box B0.out
  have q3 := (show w0.cell? ⟨w.heap.size + 1 + 1 + 1, 0, none⟩ = some (.int .i64 u) from B3.out.cell 0)
  cases hh : inHole l u
  · have hs : Hid (lossOf l m flow u = (⟨0, 0⟩, false)) := lossOf_not l m flow u (.inl hh)
    rw [hh] at HI
    clear hS hgood hh hin hB0
    unfold mudV
    generalize lossOf l m flow u = res at *
    generalize l.length = n at *
    go_enter Try.func50, Try.ntmps50
    go_wp2_with fail
    rw [HW0.out]
    go_wp2_with fail
    refine HI.out.mono ?_
    rintro e w1 ⟨rfl, hb1⟩
    have C4 := Lib.hid (B4.out.under hb1)
    have C5 := Lib.hid (B5.out.under hb1)
    have HB1 := Lib.hid (HB0.out.trans (hb1.mono HB0.out.size))
    have f0 := C4.out.frozen 0
    have f1 := C4.out.frozen 1
    have f2 := C5.out.frozen 0
    have x0 := (show w1.cell? ⟨w.heap.size + 1 + 1 + 1 + 1, 0, none⟩ = some (.int .i64 0) from C4.out.cell 0)
    have x1 := (show w1.cell? ⟨w.heap.size + 1 + 1 + 1 + 1, 1, none⟩ = some (.int .i64 0) from C4.out.cell 1)
    have x2 := (show w1.cell? ⟨w.heap.size + 1 + 1 + 1 + 1 + 1, 0, none⟩ = some (.bool false) from C5.out.cell 0)
    clear hb1
    go_wp2_with fail
    have D4 : Box (((w1.setCell ⟨w.heap.size + 1 + 1 + 1 + 1, 0, none⟩ (.int .i64 0)).setCell ⟨w.heap.size + 1 + 1 + 1 + 1, 1, none⟩ (.int .i64 0)).setCell ⟨w.heap.size + 1 + 1 + 1 + 1 + 1, 0, none⟩ (.bool false)) (w.heap.size + 1 + 1 + 1 + 1) 34 #[.int .i64 0, .int .i64 0] := by
      simpa using ((C4.out.set_ 0 (.int .i64 0)).set_ 1 (.int .i64 0)).far (p := ⟨w.heap.size + 1 + 1 + 1 + 1 + 1, 0, none⟩) (by simp) (.bool false)
    have D5 : Box (((w1.setCell ⟨w.heap.size + 1 + 1 + 1 + 1, 0, none⟩ (.int .i64 0)).setCell ⟨w.heap.size + 1 + 1 + 1 + 1, 1, none⟩ (.int .i64 0)).setCell ⟨w.heap.size + 1 + 1 + 1 + 1 + 1, 0, none⟩ (.bool false)) (w.heap.size + 1 + 1 + 1 + 1 + 1) 4 #[.bool false] := by
      simpa using ((C5.out.far (p := ⟨w.heap.size + 1 + 1 + 1 + 1, 0, none⟩) (by simp) (.int .i64 0)).far (p := ⟨w.heap.size + 1 + 1 + 1 + 1, 1, none⟩) (by simp) (.int .i64 0)).set_ 0 (.bool false)
    refine bodyPost_ret (results_loss rfl _ _ (w.heap.size + 1 + 1 + 1 + 1) (w.heap.size + 1 + 1 + 1 + 1 + 1) 0 0 false rfl rfl D4 D5) rfl ⟨by rw [hs.out], ?_⟩
    exact ((HB1.out.setCell (p := ⟨w.heap.size + 1 + 1 + 1 + 1, 0, none⟩) (by simp; omega) _).setCell (p := ⟨w.heap.size + 1 + 1 + 1 + 1, 1, none⟩) (by simp; omega) _).setCell (p := ⟨w.heap.size + 1 + 1 + 1 + 1 + 1, 0, none⟩) (by simp; omega) _
  have hub : 0 ≤ u ∧ u ≤ sizeUp l l.length := by have h := hh; unfold inHole at h; simp [within] at h; exact h.2
  have HG := Lib.hid (hgood hh)
  have hub2 := (HG.out.ups l.length (Nat.le_refl _)).2.2.2.2.2
  have HUB := Lib.hid (show 0 ≤ u ∧ u ≤ 5242880000 by omega)
  clear hub hub2
  have hfew := HG.out.few
  rw [hh] at HI
  have hsT := Lib.hid (lossOf_eq l m flow u hh)
  have hsF := Lib.hid (fun ha => lossOf_not l m flow u (.inr ha))
  have HS := Lib.hid (hS.up hB0 (Nat.le_refl _))
  clear hS hgood hh hin hB0
  generalize lossOf l m flow u = res at *
  have hfs : Fence.wide.fn 71 := trivial
  have hfi : Fence.wide.fn 73 := trivial
  generalize hn : l.length = n at *
  have HN := Lib.hid hn
  clear hn
  unfold mudV
  refine (callsIn_wide (n := 10)).1 ?_
  refine callsIn_of_wp_marks Try.func50 rfl trivial ?_ rfl
  simp only [Try.ntmps50, List.size_toArray, List.length_cons, List.length_nil, Nat.reduceAdd, Nat.reduceSub, Array.replicate_succ, Array.replicate_zero, List.push_toArray, List.append_toArray, List.nil_append, List.cons_append]
  gi_wp2_with fail
  rw [HW0.out]
  gi_wp2_with fail
  refine (callsIn_wide.2 HI.out).mono ?_
  rintro e w1 ⟨rfl, hb1⟩
  obtain ⟨w3, hw3⟩ : ∃ w3, (w1.alloc (.cells #[.int .i64 0, .int .i64 0] 34)).alloc (.cells #[.slice A n c] 25) = w3 := ⟨_, rfl⟩
  have bo : Box w3 w1.heap.size 34 #[.int .i64 0, .int .i64 0] := by rw [← hw3]; exact (Box.new _ _ _ rfl).alloc _
  have bh : Box w3 (w1.heap.size + 1) 25 #[.slice A n c] := by rw [← hw3]; exact Box.new _ _ _ (by simp)
  have b13 : Below w1.heap.size w1 w3 := by rw [← hw3]; exact ((Below.refl _ _).alloc (Nat.le_refl _) _).alloc (by simp) _
  have hs3 : w3.heap.size = w1.heap.size + 1 + 1 := by rw [← hw3]; simp
  have HW3 := Lib.hid hw3
  have HS3 := Lib.hid hs3
  have B01 := Lib.hid (B0.out.under hb1)
  have B11 := Lib.hid ((B1.out.under hb1).under b13)
  have B21 := Lib.hid ((B2.out.under hb1).under b13)
  have B31 := Lib.hid ((B3.out.under hb1).under b13)
  have B41 := Lib.hid ((B4.out.under hb1).under b13)
  have B51 := Lib.hid ((B5.out.under hb1).under b13)
  have HB1 := Lib.hid (HB0.out.trans (hb1.mono HB0.out.size))
  have HB3 := Lib.hid (HB1.out.trans (b13.mono HB1.out.size))
  have hlt1 : w.heap.size + 1 + 1 + 1 + 1 + 1 < w1.heap.size := (B5.out.under hb1).lt
  have hlt0 : w.heap.size < w1.heap.size := B01.out.lt
  have HSR := Lib.hid (HS.out.up (hb1.mono HB0.out.size) (Nat.le_refl _))
  clear hw3 hs3 q0 q3
  have q0 := B01.out.cell 0
  simp only [List.getElem?_toArray, List.getElem?_cons_zero] at q0
  gi_wp2_with fail
  refine (callsIn_wide.2 (fluid_places _ _)).mono ?_
  rintro e w' ⟨rfl, rfl⟩
  rw [HW3.out]
  gi_wp2_with fail
  have hfs1 : Fence.wide.fn 94 := trivial
  refine range_idx2 rfl (by omega) (gf := 94) (lb := #[.pointer (some ⟨w1.heap.size + 1, 0, none⟩)]) rfl trivial enters_places1
    (places_iter 9 (w1.heap.size + 1) w.heap.size A c l HG.out (by omega)) (fun _ => rfl)
    ?rd ?rdc
    (fun k W => Box W (w.heap.size + 1) 47 #[.int .i64 m.Yield, .int .i64 m.Visc] ∧ Box W (w.heap.size + 1 + 1) 2 #[.int .i64 flow] ∧ Box W (w.heap.size + 1 + 1 + 1) 2 #[.int .i64 u] ∧ Box W (w.heap.size + 1 + 1 + 1 + 1) 34 #[.int .i64 0, .int .i64 0] ∧ Box W (w.heap.size + 1 + 1 + 1 + 1 + 1) 4 #[.bool false] ∧ Box W w1.heap.size 34 #[.int .i64 (sumFrom (lossLo l m flow u) 0 k), .int .i64 (sumFrom (lossHi l m flow u) 0 k)] ∧ Below w.heap.size w W ∧ allFlow l m flow k = true)
    (fun c _ W => c = Code.ret ∧ Box W (w.heap.size + 1 + 1 + 1 + 1) 34 #[.int .i64 0, .int .i64 0] ∧ Box W (w.heap.size + 1 + 1 + 1 + 1 + 1) 4 #[.bool false] ∧ Below w.heap.size w W ∧ allFlow l m flow n = false) ?ic ?ixc ?i0
    (fun k a' W => ∃ bs, w1.heap.size + 1 < bs ∧ Box W bs 29 #[.int .i64 (sg l k).Long, .int .i64 (sg l k).Rise, .int .i64 (sg l k).Area, .int .i64 (sg l k).Gap] ∧ a' = { tmps := #[.agg #[.slice A n c], .agg #[.int .i64 m.Yield, .int .i64 m.Visc], .int .i64 flow, .int .i64 u, .pointer (some ⟨w.heap.size, 0, none⟩), .pointer (some ⟨w.heap.size + 1, 0, none⟩), .pointer (some ⟨w.heap.size + 1 + 1, 0, none⟩), .pointer (some ⟨w.heap.size + 1 + 1 + 1, 0, none⟩), .pointer (some ⟨w.heap.size + 1 + 1 + 1 + 1, 0, none⟩), .pointer (some ⟨w.heap.size + 1 + 1 + 1 + 1 + 1, 0, none⟩), .pointer (some ⟨w1.heap.size, 0, none⟩), .int .i64 (sizeUp l k), .pointer (some ⟨bs, 0, none⟩), undef, undef, undef, .agg #[.slice A n c], .int .i64 u, .bool true, .bool false, undef, .agg #[.slice A n c], .func (.func 94) #[] #[.pointer (some ⟨w1.heap.size + 1, 0, none⟩)], .int .i64 (sizeUp l k), segV (sg l k), undef, undef, undef, undef, undef, undef, undef, undef, undef, undef, undef, undef, undef, undef, undef, undef, undef, undef, undef, undef, undef, undef, undef, undef, undef, undef, undef, undef, undef, undef, undef, undef, undef, undef, undef, undef, undef, undef, undef, undef, undef], defers := [] })
    ?axc ?assign ?body ?done ?stop
  case rd => exact ⟨by have := bh.cell 0; rw [HN.out]; exact this, HSR.out.up (b13.mono (by omega)) (Nat.le_refl _)⟩
  case rdc => exact fun W W' h hc => h.calm hc
  case ic => exact fun k W W' h hc => ⟨h.1.calm hc, h.2.1.calm hc, h.2.2.1.calm hc, h.2.2.2.1.calm hc, h.2.2.2.2.1.calm hc, h.2.2.2.2.2.1.calm hc, below_calm h.2.2.2.2.2.2.1 hc (by rw [HS3.out]; omega), h.2.2.2.2.2.2.2⟩
  case ixc => exact fun _ _ _ _ h hc => ⟨h.1, h.2.1.calm hc, h.2.2.1.calm hc, below_calm h.2.2.2.1 hc (by rw [HS3.out]; omega), h.2.2.2.2⟩
  case i0 => exact ⟨B11.out, B21.out, B31.out, B41.out, B51.out, bo, HB3.out, rfl⟩
  case axc =>
    rintro k a' W W' ⟨bs, h1, h2, h3⟩ hc
    exact ⟨bs, h1, h2.calm hc, h3⟩
  case assign =>
    rintro L k W K hk hi hr hsz hK
    rw [HS3.out] at hsz
    have HKK := Lib.hid hK
    clear hK hi hr
    simp only [segEnc, segV]
    gi_wp2_with fail
    refine HKK.out _ _ ((Below.refl _ _).alloc (Nat.le_refl _) _) ⟨W.heap.size, by omega, Box.new _ _ _ rfl, rfl⟩
  case body =>
    rintro L k a' W0 W hk hi0 hlt0' hca ⟨c1, c2, c3, c4, c5, co, hB, haf⟩ hr ⟨bs, hbs, cs, rfl⟩ hsz
    have hfg : Fence.wide.fn 37 := trivial
    have hkn : k < n := by rw [← HN.out]; exact hk
    have HGR := Lib.hid (fun w => CallsIn.inRound (F := Fence.wide) L ((callsIn_wide (n := 7)).2 (fluid_Gradient (sg l k) m flow w)))
    have HLS := Lib.hid (loss_step HG.out m flow u hk)
    have HUP := Lib.hid (loss_upto HG.out m flow u k (by omega))
    have C1 := Lib.hid c1
    have C2 := Lib.hid c2
    have C3 := Lib.hid c3
    have C4 := Lib.hid c4
    have C5 := Lib.hid c5
    have CO := Lib.hid co
    have CS := Lib.hid cs
    have HB := Lib.hid hB
    have HR := Lib.hid hr
    have HAF := Lib.hid haf
    have HK := Lib.hid hk
    obtain ⟨q0, q1, q2, q3⟩ := load_agg4 cs
    obtain ⟨q4, q5⟩ := mud_box c1
    have q6 := (show W.cell? ⟨w.heap.size + 1 + 1, 0, none⟩ = some (.int .i64 flow) from c2.cell 0)
    clear c1 c2 c3 c4 c5 co cs hB hr haf hi0 hca hk
    have HSZ := Lib.hid (fun w => fluid_size (sg l k) w (HG.out.fair k HK.out) (HG.out.seg (k := k) HK.out).1)
    have HU2 := Lib.hid (HG.out.ups k (by have := HK.out; omega))
    have HSG := Lib.hid (HG.out.seg (k := k) HK.out)
    have har := (HG.out.fair k HK.out).area0
    have har2 := (HG.out.fair k HK.out).area1
    unfold mudV at HGR
    unfold segV at *
    have hgr := grad_nonneg (sg l k) m flow
    have hd1 : Hid (lossLo l m flow u k = (gradient (sg l k) m flow).1 * (aboveSeg l u k / (sg l k).Area)) := rfl
    have hd2 : Hid (lossHi l m flow u k = (gradient (sg l k) m flow).1 * upDiv (aboveSeg l u k) (sg l k).Area) := rfl
    have hd3 : Hid (aboveSeg l u k = max 0 (min (segSize (sg l k)) (sizeUp l k + segSize (sg l k) - u))) := rfl
    have hd4 : Hid (allFlow l m flow (k + 1) = (allFlow l m flow k && (gradient (sg l k) m flow).2)) := allFlow_step l m flow k
    have hd5 : Hid ((gradient (sg l k) m flow).2 = false → allFlow l m flow l.length = false) := fun h => allFlow_not HK.out h
    generalize hgg : gradient (sg l k) m flow = gg at *
    obtain ⟨g, is⟩ := gg
    clear hgg
    cases is
    · simp only [] at HGR
      gi_wp2_with fail
      refine (HGR.out _).mono ?_
      rintro e w5 ⟨rfl, hb5⟩
      have D4 := Lib.hid (C4.out.under hb5)
      have D5 := Lib.hid (C5.out.under hb5)
      have HB5 := Lib.hid hb5
      have f0 := D4.out.frozen 0
      have f1 := D4.out.frozen 1
      have f2 := D5.out.frozen 0
      have x0 := (show w5.cell? ⟨w.heap.size + 1 + 1 + 1 + 1, 0, none⟩ = some (.int .i64 0) from D4.out.cell 0)
      have x1 := (show w5.cell? ⟨w.heap.size + 1 + 1 + 1 + 1, 1, none⟩ = some (.int .i64 0) from D4.out.cell 1)
      have x2 := (show w5.cell? ⟨w.heap.size + 1 + 1 + 1 + 1 + 1, 0, none⟩ = some (.bool false) from D5.out.cell 0)
      clear hb5 q0 q1 q2 q3 q4 q5 q6
      gi_wp2_with fail
      refine ⟨keeps_trans (keeps_below HB5.out) (keeps_trans (keeps_trans (keeps_set _ _ _) (keeps_set _ _ _)) (keeps_set _ _ _)), rfl, ?_, ?_, ?_, by rw [← HN.out]; exact hd5.out (by simp)⟩
      · simpa using ((D4.out.set_ 0 (.int .i64 0)).set_ 1 (.int .i64 0)).far (p := ⟨w.heap.size + 1 + 1 + 1 + 1 + 1, 0, none⟩) (by simp) (.bool false)
      · simpa using ((D5.out.far (p := ⟨w.heap.size + 1 + 1 + 1 + 1, 0, none⟩) (by simp) (.int .i64 0)).far (p := ⟨w.heap.size + 1 + 1 + 1 + 1, 1, none⟩) (by simp) (.int .i64 0)).set_ 0 (.bool false)
      · have h1 := HB.out.trans (HB5.out.mono HB.out.size)
        exact ((h1.setCell (p := ⟨w.heap.size + 1 + 1 + 1 + 1, 0, none⟩) (by simp; omega) _).setCell (p := ⟨w.heap.size + 1 + 1 + 1 + 1, 1, none⟩) (by simp; omega) _).setCell (p := ⟨w.heap.size + 1 + 1 + 1 + 1 + 1, 0, none⟩) (by simp; omega) _
    simp only [] at HGR
    gi_wp2_with fail
    refine (HGR.out _).mono ?_
    rintro e w5 ⟨rfl, hb5⟩
    have HB5 := Lib.hid hb5
    clear hb5 q0 q1 q2 q3 q4 q5 q6
    gi_wp2_with fail
    have HSS := Lib.hid (fun W' (h : Below W.heap.size W W') => (⟨(load_agg4 (CS.out.under h)).1, (load_agg4 (CS.out.under h)).2.1, (load_agg4 (CS.out.under h)).2.2.1, (load_agg4 (CS.out.under h)).2.2.2, (C3.out.under h).cell 0⟩ : W'.cell? ⟨bs, 0, none⟩ = some (.int .i64 (sg l k).Long) ∧ W'.cell? ⟨bs, 1, none⟩ = some (.int .i64 (sg l k).Rise) ∧ W'.cell? ⟨bs, 2, none⟩ = some (.int .i64 (sg l k).Area) ∧ W'.cell? ⟨bs, 3, none⟩ = some (.int .i64 (sg l k).Gap) ∧ W'.cell? ⟨w.heap.size + 1 + 1 + 1, 0, none⟩ = some (.int .i64 u)))
    have HB6 := Lib.hid (HB5.out.trans ((Below.refl w5.heap.size w5).drew.mono HB5.out.size))
    refine region_round mixed (by kernel_rfl) ?_
    refine AnyMid.any (q := 1) (S := fun (_ : Bool) (W' : World) => W'.cell? ⟨bs, 0, none⟩ = some (.int .i64 (sg l k).Long) ∧ W'.cell? ⟨bs, 1, none⟩ = some (.int .i64 (sg l k).Rise) ∧ W'.cell? ⟨bs, 2, none⟩ = some (.int .i64 (sg l k).Area) ∧ W'.cell? ⟨bs, 3, none⟩ = some (.int .i64 (sg l k).Gap) ∧ W'.cell? ⟨w.heap.size + 1 + 1 + 1, 0, none⟩ = some (.int .i64 u)) (Z := fun _ => false) ?_
    refine AnyMid.take (fun W' : World => W'.cell? ⟨bs, 0, none⟩ = some (.int .i64 (sg l k).Long) ∧ W'.cell? ⟨bs, 1, none⟩ = some (.int .i64 (sg l k).Rise) ∧ W'.cell? ⟨bs, 2, none⟩ = some (.int .i64 (sg l k).Area) ∧ W'.cell? ⟨bs, 3, none⟩ = some (.int .i64 (sg l k).Gap) ∧ W'.cell? ⟨w.heap.size + 1 + 1 + 1, 0, none⟩ = some (.int .i64 u)) (i := 0) (v := .agg #[.int .i64 (sg l k).Long, .int .i64 (sg l k).Rise, .int .i64 (sg l k).Area, .int .i64 (sg l k).Gap]) [] 20 (fun _ h => by cases h) (fun _ h => h) (.inr fun _ h => h) (HSS.out _ HB6.out) rfl (by decide +kernel) (fun _ _ _ h => h) (Or.inl ⟨by simp [Region.wanted], fun w' hw' => by (obtain ⟨s0, s1, s2, s3, s4⟩ := hw'; go_simp)⟩) ?_
    refine AnyMid.take (fun W' : World => W'.cell? ⟨bs, 0, none⟩ = some (.int .i64 (sg l k).Long) ∧ W'.cell? ⟨bs, 1, none⟩ = some (.int .i64 (sg l k).Rise) ∧ W'.cell? ⟨bs, 2, none⟩ = some (.int .i64 (sg l k).Area) ∧ W'.cell? ⟨bs, 3, none⟩ = some (.int .i64 (sg l k).Gap) ∧ W'.cell? ⟨w.heap.size + 1 + 1 + 1, 0, none⟩ = some (.int .i64 u)) (i := 2) (v := .int .i64 (sizeUp l k)) [] 20 (fun _ h => by cases h) (fun _ h => h) (.inr fun _ h => h) (HSS.out _ HB6.out) rfl (by decide +kernel) (fun _ _ _ h => h) (Or.inl ⟨by simp [Region.wanted], fun w' hw' => by (obtain ⟨s0, s1, s2, s3, s4⟩ := hw'; go_simp)⟩) ?_
    refine AnyMid.take (fun W' : World => W'.cell? ⟨bs, 0, none⟩ = some (.int .i64 (sg l k).Long) ∧ W'.cell? ⟨bs, 1, none⟩ = some (.int .i64 (sg l k).Rise) ∧ W'.cell? ⟨bs, 2, none⟩ = some (.int .i64 (sg l k).Area) ∧ W'.cell? ⟨bs, 3, none⟩ = some (.int .i64 (sg l k).Gap) ∧ W'.cell? ⟨w.heap.size + 1 + 1 + 1, 0, none⟩ = some (.int .i64 u)) (i := 3) (v := .agg #[.int .i64 (sg l k).Long, .int .i64 (sg l k).Rise, .int .i64 (sg l k).Area, .int .i64 (sg l k).Gap]) [] 20 (fun _ h => by cases h) (fun _ h => h) (.inr fun _ h => h) (HSS.out _ HB6.out) rfl (by decide +kernel) (fun _ _ _ h => h) (Or.inl ⟨by simp [Region.wanted], fun w' hw' => by (obtain ⟨s0, s1, s2, s3, s4⟩ := hw'; go_simp)⟩) ?_
    refine AnyMid.take (fun W' : World => W'.cell? ⟨bs, 0, none⟩ = some (.int .i64 (sg l k).Long) ∧ W'.cell? ⟨bs, 1, none⟩ = some (.int .i64 (sg l k).Rise) ∧ W'.cell? ⟨bs, 2, none⟩ = some (.int .i64 (sg l k).Area) ∧ W'.cell? ⟨bs, 3, none⟩ = some (.int .i64 (sg l k).Gap) ∧ W'.cell? ⟨w.heap.size + 1 + 1 + 1, 0, none⟩ = some (.int .i64 u)) (i := 6) (v := .int .i64 u) [] 20 (fun _ h => by cases h) (fun _ h => h) (.inr fun _ h => h) (HSS.out _ HB6.out) rfl (by decide +kernel) (fun _ _ _ h => h) (Or.inl ⟨by simp [Region.wanted], fun w' hw' => by (obtain ⟨s0, s1, s2, s3, s4⟩ := hw'; go_simp)⟩) ?_
    refine AnyMid.only (i := 1) (by decide +kernel) rfl rfl fun K hK => ?_
    go_simp
    refine (HSZ.out _).mono ?_
    rintro e w7 ⟨rfl, hb7⟩
    have HB7 := Lib.hid (HB6.out.trans (hb7.mono HB6.out.size))
    clear hb7
    refine hK _ _ (fun _ => HSS.out _ HB7.out) ?_
    clear hK
    refine AnyMid.only (i := 4) (by decide +kernel) rfl rfl fun K hK => ?_
    go_simp
    refine (HSZ.out _).mono ?_
    rintro e w8 ⟨rfl, hb8⟩
    have HB8 := Lib.hid (HB7.out.trans (hb8.mono HB7.out.size))
    clear hb8
    refine hK _ _ (fun _ => HSS.out _ HB8.out) ?_
    clear hK
    obtain ⟨u0, u1⟩ := HUB.out
    obtain ⟨_, _, _, _, p0, p1⟩ := HU2.out
    obtain ⟨_, z0, z1⟩ := HSG.out
    have p2 : 0 ≤ sizeUp l k := by omega
    clear p0
    generalize sizeUp l k = SU at *
    generalize segSize (sg l k) = SZ at *
    have hwa : IntKind.i64.wrap (SU + SZ) = SU + SZ := IntWalk.i64_in _ (by omega)
    have hwb : IntKind.i64.wrap (SU + SZ - u) = SU + SZ - u := IntWalk.i64_in _ (by omega)
    refine AnyMid.only (i := 5) (by decide +kernel) rfl rfl fun K hK => ?_
    go_simp
    refine hK _ _ (fun _ => HSS.out _ HB8.out) ?_
    clear hK
    refine AnyMid.only (i := 7) (by decide +kernel) rfl rfl fun K hK => ?_
    go_simp
    refine hK _ _ (fun _ => HSS.out _ HB8.out) ?_
    clear hK
    refine AnyMid.only (i := 8) (by decide +kernel) rfl rfl fun K hK => ?_
    go_simp
    generalize hmn : (if SU + SZ - u < SZ then SU + SZ - u else SZ) = mn
    have hmn2 : mn = min SZ (SU + SZ - u) := by rw [← hmn]; omega
    clear hmn
    refine hK _ _ (fun _ => HSS.out _ HB8.out) ?_
    clear hK
    rw [← hmn2] at hd3
    clear hmn2
    refine AnyMid.only (i := 9) (by decide +kernel) rfl rfl fun K hK => ?_
    go_simp
    generalize hmx : (if 0 < mn then mn else 0) = ab
    have hmx2 : ab = max 0 mn := by rw [← hmx]; omega
    clear hmx
    refine hK _ _ (fun _ => HSS.out _ HB8.out) ?_
    clear hK
    rw [← hmx2] at hd3
    clear hmx2
    refine AnyMid.only (i := 10) (by decide +kernel) rfl rfl fun K hK => ?_
    go_simp
    refine hK _ _ (fun _ => HSS.out _ HB8.out) ?_
    clear hK
    refine AnyMid.done (by decide +kernel) ⟨by simp, ?_⟩
    rw [hd3.out] at HLS hd1 hd2
    clear hwa hwb HSZ HU2 HSG
    obtain ⟨a0, a1, a2, a3, a4, a5, a6, a7⟩ := HLS.out
    rw [hd1.out] at a4 a5
    rw [hd2.out] at a6 a7
    have G8 := CO.out.under HB8.out
    have x0 := (show w8.cell? ⟨w1.heap.size, 0, none⟩ = some (.int .i64 (sumFrom (lossLo l m flow u) 0 k)) from G8.cell 0)
    have x1 := (show w8.cell? ⟨w1.heap.size, 1, none⟩ = some (.int .i64 (sumFrom (lossHi l m flow u) 0 k)) from G8.cell 1)
    have f0 := G8.frozen 0
    have f1 := G8.frozen 1
    obtain ⟨s0, s1, s2, s3, s4⟩ := HSS.out _ HB8.out
    obtain ⟨b0, b1, b2, b3⟩ := HUP.out
    obtain ⟨g0, g1⟩ := hgr
    have hlo := Lib.hid (up_step (lossLo l m flow u) k)
    have hhi := Lib.hid (up_step (lossHi l m flow u) k)
    rw [hd1.out] at hlo
    rw [hd2.out] at hhi
    have hal : 0 ≤ ab ∧ ab ≤ 5242880000 := by
      have h := above_bound HG.out u HK.out
      have h2 := (HG.out.seg (k := k) HK.out).2.2
      rw [hd3.out] at h
      omega
    obtain ⟨ab0, ab1⟩ := hal
    have hlong := (HG.out.seg (k := k) HK.out).1
    have HUPC := Lib.hid (fun w => fluid_up ab (sg l k).Area w ab0 (by omega) har (by omega))
    clear HLS hd1 hd2 hd3 HUP
    generalize sumFrom (lossLo l m flow u) 0 k = LO at *
    generalize sumFrom (lossHi l m flow u) 0 k = HI at *
    generalize (sg l k).Area = ar at *
    generalize (sg l k).Long = lg at *
    try simp only [] at a4 a5 a6 a7 hlo hhi g0 g1
    have hz : (ar == 0) = false := beq_eq_false_iff_ne.2 (by omega)
    have hz2 : ¬ ar = 0 := by omega
    have hwq : IntKind.i64.wrap (ab.tdiv ar) = ab / ar := by rw [Int.tdiv_eq_ediv_of_nonneg ab0]; exact IntWalk.i64_in _ (by omega)
    generalize ab / ar = q at *
    generalize upDiv ab ar = ud at *
    have hwm : IntKind.i64.wrap (g * q) = g * q := IntWalk.i64_in _ (by omega)
    have hwl : IntKind.i64.wrap (LO + g * q) = LO + g * q := IntWalk.i64_in _ (by omega)
    have hwm2 : IntKind.i64.wrap (g * ud) = g * ud := IntWalk.i64_in _ (by omega)
    have hwl2 : IntKind.i64.wrap (HI + g * ud) = HI + g * ud := IntWalk.i64_in _ (by omega)
    gi_wp2_with fail
    refine region_tail 10 mixed (by kernel_rfl) (by kernel_rfl) ?_
    simp only [List.take_succ_cons, List.take_zero, List.drop_succ_cons, List.drop_zero]
    repeat still_step
    refine wpStill_nil ?_
    gi_wp2_with fail
    have G9 : Box (w8.setCell ⟨w1.heap.size, 0, none⟩ (.int .i64 (LO + g * q))).drew w1.heap.size 34 #[.int .i64 (LO + g * q), .int .i64 HI] := by simpa using (G8.set_ 0 (.int .i64 (LO + g * q))).drew
    have CS9 := ((CS.out.under HB8.out).far (p := ⟨w1.heap.size, 0, none⟩) (by simp; omega) (.int .i64 (LO + g * q))).drew
    have hsz8 : w1.heap.size < w8.heap.size := G8.lt
    obtain ⟨w9, hw9⟩ : ∃ w9, (w8.setCell ⟨w1.heap.size, 0, none⟩ (.int .i64 (LO + g * q))).drew = w9 := ⟨_, rfl⟩
    rw [hw9] at G9 CS9
    rw [hw9]
    have HW9 := Lib.hid hw9
    have G9H := Lib.hid G9
    clear x0 x1 f0 f1 s0 s1 s2 s3 s4 hw9
    have x1 := (show w9.cell? ⟨w1.heap.size, 1, none⟩ = some (.int .i64 HI) from G9.cell 1)
    have f1 := G9.frozen 1
    obtain ⟨s0, s1, s2, s3⟩ := load_agg4 CS9
    refine region_tail 10 mixed (by kernel_rfl) (by kernel_rfl) ?_
    simp only [List.take_succ_cons, List.take_zero, List.drop_succ_cons, List.drop_zero]
    repeat still_step
    still_call (quiet_of (HUPC.out _))
    repeat still_step
    refine wpStill_nil ?_
    gi_wp2_with fail
    have hw9 := HW9.out
    subst hw9
    have hBB := HB.out.trans (HB8.out.mono HB.out.size)
    refine ⟨keeps_trans (keeps_below HB8.out) (keeps_trans (keeps_drew (keeps_set w8 ⟨w1.heap.size, 0, none⟩ (.int .i64 (LO + g * q)))) (keeps_drew (keeps_set (w8.setCell ⟨w1.heap.size, 0, none⟩ (.int .i64 (LO + g * q))).drew ⟨w1.heap.size, 1, none⟩ (.int .i64 (HI + g * ud))))), ⟨?_, ?_, ?_, ?_, ?_, ?_, ?_, ?_⟩, ?_, ?_⟩
    · exact (((C1.out.under HB8.out).far (p := ⟨w1.heap.size, 0, none⟩) (by simp; omega) _).drew.far (p := ⟨w1.heap.size, 1, none⟩) (by simp; omega) _).drew
    · exact (((C2.out.under HB8.out).far (p := ⟨w1.heap.size, 0, none⟩) (by simp; omega) _).drew.far (p := ⟨w1.heap.size, 1, none⟩) (by simp; omega) _).drew
    · exact (((C3.out.under HB8.out).far (p := ⟨w1.heap.size, 0, none⟩) (by simp; omega) _).drew.far (p := ⟨w1.heap.size, 1, none⟩) (by simp; omega) _).drew
    · exact (((C4.out.under HB8.out).far (p := ⟨w1.heap.size, 0, none⟩) (by simp; omega) _).drew.far (p := ⟨w1.heap.size, 1, none⟩) (by simp; omega) _).drew
    · exact (((C5.out.under HB8.out).far (p := ⟨w1.heap.size, 0, none⟩) (by simp; omega) _).drew.far (p := ⟨w1.heap.size, 1, none⟩) (by simp; omega) _).drew
    · rw [hlo.out, hhi.out]
      simpa using (G9H.out.set_ 1 (.int .i64 (HI + g * ud))).drew
    · exact ((hBB.setCell (p := ⟨w1.heap.size, 0, none⟩) (by simp; omega) _).drew.setCell (p := ⟨w1.heap.size, 1, none⟩) (by simp; omega) _).drew
    · rw [hd4.out, HAF.out]; simp
    · exact (((HR.out.under HB8.out).set_ (p := ⟨w1.heap.size, 0, none⟩) (by simp; omega) (by simp) _).drew.set_ (p := ⟨w1.heap.size, 1, none⟩) (by simp; omega) (by simp) _).drew
    · exact (((Mid.below HB8.out).set (p := ⟨w1.heap.size, 0, none⟩) (by rw [HS3.out] at hlt0'; simp; omega) _).drew.set (p := ⟨w1.heap.size, 1, none⟩) (by rw [HS3.out] at hlt0'; simp; omega) _).drew
  case done =>
    rintro W ⟨c1, c2, c3, c4, c5, co, hB, haf⟩ hK
    have x0 := (show W.cell? ⟨w1.heap.size, 0, none⟩ = some (.int .i64 (sumFrom (lossLo l m flow u) 0 l.length)) from co.cell 0)
    have x1 := (show W.cell? ⟨w1.heap.size, 1, none⟩ = some (.int .i64 (sumFrom (lossHi l m flow u) 0 l.length)) from co.cell 1)
    have v0 := (show W.cell? ⟨w.heap.size + 1 + 1 + 1 + 1, 0, none⟩ = some (.int .i64 0) from c4.cell 0)
    have v1 := (show W.cell? ⟨w.heap.size + 1 + 1 + 1 + 1, 1, none⟩ = some (.int .i64 0) from c4.cell 1)
    have v2 := (show W.cell? ⟨w.heap.size + 1 + 1 + 1 + 1 + 1, 0, none⟩ = some (.bool false) from c5.cell 0)
    have f0 := c4.frozen 0
    have f1 := c4.frozen 1
    have f2 := c5.frozen 0
    rw [HN.out] at haf
    have hsT2 := Lib.hid (hsT.out haf)
    have C4 := Lib.hid c4
    have C5 := Lib.hid c5
    have HB := Lib.hid hB
    have HKK := Lib.hid hK
    clear haf c1 c2 c3 c4 c5 co hB hK
    rw [HN.out] at x0 x1
    generalize sumFrom (lossLo l m flow u) 0 n = LO at *
    generalize sumFrom (lossHi l m flow u) 0 n = HI at *
    gi_wp2_with fail
    have hK1 : (((W.setCell ⟨w.heap.size + 1 + 1 + 1 + 1, 0, none⟩ (.int .i64 LO)).setCell ⟨w.heap.size + 1 + 1 + 1 + 1, 1, none⟩ (.int .i64 HI)).setCell ⟨w.heap.size + 1 + 1 + 1 + 1 + 1, 0, none⟩ (.bool true)).heap[w3.heap.size]? = some (.deferred (some [])) :=
      (Below.heap_setCell _ _ _ _ (by rw [HS3.out]; simp; omega)).trans ((Below.heap_setCell _ _ _ _ (by rw [HS3.out]; simp; omega)).trans ((Below.heap_setCell _ _ _ _ (by rw [HS3.out]; simp; omega)).trans HKK.out))
    refine ⟨by simp, .inl ⟨_, _, rfl, run_takeDeferred hK1, ?_⟩⟩
    have hcm := Calm.put (B := 0) (.deferred none) (Nat.zero_le _) hK1 rfl
    have k4 := (((C4.out.set_ 0 (.int .i64 LO)).set_ 1 (.int .i64 HI)).far (p := ⟨w.heap.size + 1 + 1 + 1 + 1 + 1, 0, none⟩) (by simp) (.bool true)).calm hcm
    have k5 := (((C5.out.far (p := ⟨w.heap.size + 1 + 1 + 1 + 1, 0, none⟩) (by simp) (.int .i64 LO)).far (p := ⟨w.heap.size + 1 + 1 + 1 + 1, 1, none⟩) (by simp) (.int .i64 HI)).set_ 0 (.bool true)).calm hcm
    refine ⟨_, results_loss rfl _ _ (w.heap.size + 1 + 1 + 1 + 1) (w.heap.size + 1 + 1 + 1 + 1 + 1) LO HI true rfl rfl (by simpa using k4) (by simpa using k5), by rw [hsT2.out], ?_⟩
    exact (((HB.out.setCell (p := ⟨w.heap.size + 1 + 1 + 1 + 1, 0, none⟩) (by simp; omega) _).setCell (p := ⟨w.heap.size + 1 + 1 + 1 + 1, 1, none⟩) (by simp; omega) _).setCell (p := ⟨w.heap.size + 1 + 1 + 1 + 1 + 1, 0, none⟩) (by simp; omega) _).trans (belowK_b (w := w) (Nat.le_refl _) _ w3.heap.size _ _ (by rw [HS3.out]; omega) hK1 rfl rfl)
  case stop =>
    rintro c k W _ ⟨rfl, h1, h2, hB, haf⟩ hK
    have hsF2 := Lib.hid (hsF.out haf)
    have HB := Lib.hid hB
    clear haf hB
    gi_wp2_with fail
    refine ⟨by simp, .inl ⟨_, _, rfl, run_takeDeferred hK, ?_⟩⟩
    have hcm := Calm.put (B := 0) (.deferred none) (Nat.zero_le _) hK rfl
    exact ⟨_, results_loss rfl _ _ (w.heap.size + 1 + 1 + 1 + 1) (w.heap.size + 1 + 1 + 1 + 1 + 1) 0 0 false rfl rfl (h1.calm hcm) (h2.calm hcm), by rw [hsF2.out], HB.out.trans (belowK_b (w := w) (Nat.le_refl _) W w3.heap.size _ _ (by rw [HS3.out]; omega) hK rfl rfl)⟩

end Go.Proofs.Ytgcfplkfclapiaa

/- Big numbers by their digits: the plain law of the document's product, sum and comparison. No Go in sight. -/
namespace Mpl

/-- the number of some digits to the base of a million, the last one first -/
def bigVal : List Int → Int
  | [] => 0
  | d :: l => d + 1000000 * bigVal l
def Digits (l : List Int) : Prop := ∀ d ∈ l, 0 ≤ d ∧ d ≤ 999999
def mil (k : Nat) : Int := (1000000 : Int) ^ k
theorem mil_pos (k : Nat) : 0 < mil k := Int.pow_pos (by omega)
theorem mil_step (k : Nat) : mil (k + 1) = mil k * 1000000 := by unfold mil; rw [Int.pow_succ]
theorem mil_mono {a b : Nat} (h : a ≤ b) : mil a ≤ mil b := by
  induction h with
  | refl => exact Int.le_refl _
  | step _ ih => rw [mil_step]; have := mil_pos a; omega
theorem bigVal_nonneg {l : List Int} (h : Digits l) : 0 ≤ bigVal l := by
  induction l with
  | nil => simp [bigVal]
  | cons d l ih =>
    have := ih fun x hx => h x (by simp [hx])
    have := (h d (by simp)).1
    simp only [bigVal]
    omega
theorem bigVal_append (a b : List Int) : bigVal (a ++ b) = bigVal a + mil a.length * bigVal b := by
  induction a with
  | nil => simp [bigVal, mil]
  | cons d a ih =>
    simp only [List.cons_append, bigVal, ih, List.length_cons, mil_step]
    rw [Int.mul_add, ← Int.mul_assoc, Int.mul_comm (mil a.length) 1000000]
    omega
theorem bigVal_snoc (a : List Int) (d : Int) : bigVal (a ++ [d]) = bigVal a + mil a.length * d := by
  rw [bigVal_append]
  simp [bigVal]
theorem Digits.snoc {l : List Int} {d : Int} (h : Digits l) (h0 : 0 ≤ d) (h1 : d ≤ 999999) : Digits (l ++ [d]) := fun x hx => by
  rcases List.mem_append.1 hx with hx | hx
  · exact h x hx
  · simp at hx; subst hx; exact ⟨h0, h1⟩
theorem Digits.pick {l : List Int} (h : Digits l) (k : Nat) : 0 ≤ pick l k ∧ pick l k ≤ 999999 := by
  unfold Mpl.pick
  cases hk : l[k]? with
  | none => simp
  | some d => exact h d (List.mem_of_getElem? hk)
theorem Digits.drop {l : List Int} (h : Digits l) (k : Nat) : Digits (l.drop k) := fun d hd => h d (List.mem_of_mem_drop hd)
theorem bigVal_drop (l : List Int) (k : Nat) : bigVal (l.drop k) = pick l k + 1000000 * bigVal (l.drop (k + 1)) := by
  rcases Nat.lt_or_ge k l.length with hk | hk
  · rw [List.drop_eq_getElem_cons hk]
    simp [bigVal, Mpl.pick, hk]
  · rw [List.drop_of_length_le hk, List.drop_of_length_le (by omega)]
    simp [bigVal, Mpl.pick, hk]
theorem bigVal_bound {l : List Int} (h : Digits l) : bigVal l < mil l.length := by
  induction l with
  | nil => simp [bigVal, mil]
  | cons d l ih =>
    have := ih fun x hx => h x (by simp [hx])
    have := (h d (by simp)).2
    simp only [bigVal, List.length_cons, mil_step]
    omega

/-! ### a product's inner loop -/
/-- what the carry may be, e digits behind the end -/
def carryTop : Nat → Int
  | 0 => 1099511627776
  | 1 => 1099511
  | 2 => 1
  | _ => 0
theorem carryTop_le (e : Nat) : 0 ≤ carryTop e ∧ carryTop e ≤ 1099511627776 := by
  match e with
  | 0 => simp [carryTop]
  | 1 => simp [carryTop]
  | 2 => simp [carryTop]
  | e + 3 => simp [carryTop]
theorem carryTop_step (e : Nat) (c : Int) (h0 : 0 ≤ c) (h : c ≤ carryTop e) : c / 1000000 ≤ carryTop (e + 1) := by
  match e with
  | 0 => simp only [carryTop] at *; omega
  | 1 => simp only [carryTop] at *; omega
  | 2 => simp only [carryTop] at *; omega
  | e + 3 => simp only [carryTop] at *; omega
/-- behind k rounds: next has k digits -/
structure MulSt (out : List Int) (x : Int) (k : Nat) (carry : Int) (next : List Int) : Prop where
  len : next.length = k
  dig : Digits next
  c0 : 0 ≤ carry
  c1 : carry ≤ carryTop (k - out.length)
  far : k ≤ out.length + 3
  val : bigVal next + mil k * (carry + bigVal (out.drop k) * x) = bigVal out * x
theorem MulSt.begin (out : List Int) (x : Int) : MulSt out x 0 0 [] :=
  ⟨rfl, fun _ h => by simp at h, Int.le_refl _, by simp [carryTop], by omega, by simp [bigVal, mil]⟩
theorem MulSt.bound {out next : List Int} {x c : Int} {k : Nat} (h : MulSt out x k c next) : c ≤ 1099511627776 := Int.le_trans h.c1 (carryTop_le _).2
theorem mul_room {d x : Int} (d0 : 0 ≤ d) (d1 : d ≤ 999999) (x0 : 0 ≤ x) (x1 : x ≤ 1099511627776) : 0 ≤ d * x ∧ d * x ≤ 1099510528264372224 :=
  ⟨Int.mul_nonneg d0 x0, Int.le_trans (Int.mul_le_mul d1 x1 x0 (by omega)) (by omega)⟩
theorem mul_split (a c : Int) (k : Nat) (r : Int) : a + mil k * (c + 1000000 * r) = (a + mil k * (c % 1000000)) + mil (k + 1) * (c / 1000000 + r) := by
  rw [mil_step]
  have h := Int.emod_add_mul_ediv c 1000000
  have e1 : mil k * (c + 1000000 * r) = mil k * (c % 1000000) + mil k * 1000000 * (c / 1000000 + r) := by
    rw [Int.mul_assoc, ← Int.mul_add]
    congr 1
    omega
  omega
/-- a round with a digit -/
theorem MulSt.digit {out next : List Int} {x c : Int} {k : Nat} (h : MulSt out x k c next) (ho : Digits out) (hk : k < out.length) (x0 : 0 ≤ x) (x1 : x ≤ 1099511627776) :
    MulSt out x (k + 1) ((c + pick out k * x) / 1000000) (next ++ [(c + pick out k * x) % 1000000]) := by
  have hb := h.bound
  have hc := h.c0
  have hd := ho.pick k
  have hr := mul_room hd.1 hd.2 x0 x1
  refine ⟨by simp [h.len], h.dig.snoc (by omega) (by omega), by omega, ?_, by omega, ?_⟩
  · rw [show k + 1 - out.length = 0 by omega]
    simp only [carryTop]
    omega
  · rw [bigVal_snoc, h.len]
    have hv := h.val
    rw [bigVal_drop, Int.add_mul, Int.mul_assoc, ← Int.add_assoc, mul_split] at hv
    exact hv
/-- a round behind the digits -/
theorem MulSt.rest {out next : List Int} {x c : Int} {k : Nat} (h : MulSt out x k c next) (hk : out.length ≤ k) (hpos : 0 < c) :
    MulSt out x (k + 1) (c / 1000000) (next ++ [c % 1000000]) := by
  have hc := h.c0
  refine ⟨by simp [h.len], h.dig.snoc (by omega) (by omega), by omega, ?_, ?_, ?_⟩
  · rw [show k + 1 - out.length = (k - out.length) + 1 by omega]
    exact carryTop_step _ _ hc h.c1
  · rcases Nat.lt_or_ge k (out.length + 3) with h3 | h3
    · omega
    · have := h.c1
      rw [show k - out.length = (k - out.length - 3) + 3 by omega] at this
      simp only [carryTop] at this
      omega
  · rw [bigVal_snoc, h.len]
    have hv := h.val
    rw [List.drop_of_length_le hk] at hv
    rw [List.drop_of_length_le (by omega)]
    simp only [bigVal] at hv ⊢
    have := mul_split (bigVal next) c k 0
    simp at this hv ⊢
    omega
theorem MulSt.done {out next : List Int} {x c : Int} {k : Nat} (h : MulSt out x k c next) (hk : out.length ≤ k) (hc : ¬ 0 < c) : bigVal next = bigVal out * x := by
  have hv := h.val
  have h0 : c = 0 := by have := h.c0; omega
  rw [List.drop_of_length_le hk, h0] at hv
  simpa [bigVal] using hv

/-! ### a sum's loop -/
structure SumSt (x y : List Int) (k : Nat) (carry : Int) (out : List Int) : Prop where
  len : out.length = k
  dig : Digits out
  c0 : 0 ≤ carry
  c1 : carry ≤ 1
  far : k ≤ max x.length y.length + 1
  c2 : max x.length y.length < k → carry = 0
  val : bigVal out + mil k * (carry + (bigVal (x.drop k) + bigVal (y.drop k))) = bigVal x + bigVal y
theorem SumSt.begin (x y : List Int) : SumSt x y 0 0 [] :=
  ⟨rfl, fun _ h => by simp at h, Int.le_refl _, by omega, by omega, fun _ => rfl, by simp [bigVal, mil]⟩
theorem pick_out {l : List Int} {k : Nat} (h : ¬ k < l.length) : pick l k = 0 := by simp [pick, h]
theorem SumSt.step {x y out : List Int} {c : Int} {k : Nat} (h : SumSt x y k c out) (hx : Digits x) (hy : Digits y) (hgo : k < x.length ∨ k < y.length ∨ 0 < c) :
    SumSt x y (k + 1) ((c + pick x k + pick y k) / 1000000) (out ++ [(c + pick x k + pick y k) % 1000000]) := by
  have hc0 := h.c0
  have hc1 := h.c1
  have hc2 := h.c2
  have hd := hx.pick k
  have he := hy.pick k
  refine ⟨by simp [h.len], h.dig.snoc (by omega) (by omega), by omega, by omega, ?_, ?_, ?_⟩
  · rcases Nat.lt_or_ge (max x.length y.length) k with h1 | h1
    · have := hc2 h1; omega
    · omega
  · intro h1
    rw [pick_out (l := x) (by omega), pick_out (l := y) (by omega)]
    omega
  · rw [bigVal_snoc, h.len]
    have hv := h.val
    rw [bigVal_drop x, bigVal_drop y, show c + (pick x k + 1000000 * bigVal (x.drop (k + 1)) + (pick y k + 1000000 * bigVal (y.drop (k + 1)))) = (c + pick x k + pick y k) + 1000000 * (bigVal (x.drop (k + 1)) + bigVal (y.drop (k + 1))) by omega, mul_split] at hv
    exact hv
theorem SumSt.done {x y out : List Int} {c : Int} {k : Nat} (h : SumSt x y k c out) (hx : ¬ k < x.length) (hy : ¬ k < y.length) (hc : ¬ 0 < c) : bigVal out = bigVal x + bigVal y := by
  have hv := h.val
  have h0 : c = 0 := by have := h.c0; omega
  rw [List.drop_of_length_le (by omega), List.drop_of_length_le (by omega), h0] at hv
  simpa [bigVal] using hv

/-! ### a comparison's loop, from the top -/
/-- above k, all digits are the same -/
def SameAbove (x y : List Int) (k : Nat) : Prop := ∀ j, k ≤ j → pick x j = pick y j
theorem drop_same {x y : List Int} : ∀ (n k : Nat), max x.length y.length ≤ k + n → SameAbove x y k → bigVal (x.drop k) = bigVal (y.drop k)
  | 0, k, hn, _ => by rw [List.drop_of_length_le (by omega), List.drop_of_length_le (by omega)]
  | n + 1, k, hn, h => by
    rw [bigVal_drop x, bigVal_drop y, h k (Nat.le_refl _), drop_same n (k + 1) (by omega) fun j hj => h j (by omega)]
theorem val_cut (l : List Int) (k : Nat) : bigVal l = bigVal (l.take k) + mil k * bigVal (l.drop k) := by
  rcases Nat.lt_or_ge k l.length with h | h
  · conv => lhs; rw [← List.take_append_drop k l, bigVal_append]
    rw [List.length_take, Nat.min_eq_left (by omega)]
  · rw [List.take_of_length_le h, List.drop_of_length_le h]
    simp [bigVal]
theorem take_low {l : List Int} (h : Digits l) (k : Nat) : 0 ≤ bigVal (l.take k) ∧ bigVal (l.take k) < mil k := by
  have hd : Digits (l.take k) := fun d hd => h d (List.mem_of_mem_take hd)
  refine ⟨bigVal_nonneg hd, Int.lt_of_lt_of_le (bigVal_bound hd) ?_⟩
  rw [List.length_take]
  exact mil_mono (Nat.min_le_left _ _)
theorem cmp_less {x y : List Int} (hx : Digits x) (hy : Digits y) {k : Nat} (hs : SameAbove x y (k + 1)) (h : pick x k < pick y k) : bigVal x < bigVal y := by
  have e := drop_same (max x.length y.length) (k + 1) (by omega) hs
  have d1 := bigVal_drop x k
  have d2 := bigVal_drop y k
  rw [val_cut x k, val_cut y k]
  have t1 := take_low hx k
  have t2 := take_low hy k
  have h1 : bigVal (x.drop k) + 1 ≤ bigVal (y.drop k) := by omega
  have h2 := Int.mul_le_mul_of_nonneg_left h1 (show 0 ≤ mil k by have := mil_pos k; omega)
  rw [Int.mul_add] at h2
  omega
theorem cmp_all {x y : List Int} (hs : SameAbove x y 0) : bigVal x = bigVal y := by
  have := drop_same (max x.length y.length) 0 (by omega) hs
  simpa using this
theorem SameAbove.top (x y : List Int) : SameAbove x y (max x.length y.length) := fun j hj => by
  rw [pick_out (by omega), pick_out (by omega)]
theorem SameAbove.down {x y : List Int} {k : Nat} (h : SameAbove x y (k + 1)) (he : pick x k = pick y k) : SameAbove x y k := fun j hj => by
  rcases Nat.eq_or_lt_of_le hj with rfl | hj
  · exact he
  · exact h j hj

/-! ### the product of a list -/
def prodI (l : List Int) (k : Nat) : Int := (l.take k).foldl (· * ·) 1
theorem prodI_step (l : List Int) (k : Nat) (h : k < l.length) : prodI l (k + 1) = prodI l k * pick l k := by
  unfold prodI
  rw [List.take_succ_eq_append_getElem h, List.foldl_append]
  simp [pick, h]
theorem prodI_all (l : List Int) : prodI l l.length = l.foldl (· * ·) 1 := by unfold prodI; rw [List.take_length]
end Mpl

/- Walks of the document's big numbers: product, sum, comparison (printed by gen_refbig.py). -/
namespace Go.Proofs.Ytgcfplkfclapiaa
open Go.RowKit Go.Shelf Go.Deep Mpl

/-- a big number in memory, of at most L digits -/
def BigV (W : World) (v : Value) (N : Int) (L : Nat) : Prop := ∃ A c ds, v = .slice A ds.length c ∧ Ints W W.heap.size A ds ∧ Digits ds ∧ bigVal ds = N ∧ ds.length ≤ L
theorem BigV.under {W W' : World} {v : Value} {N : Int} {L : Nat} (h : BigV W v N L) (hb : Below W.heap.size W W') : BigV W' v N L := by
  obtain ⟨A, c, ds, h1, h2, h3⟩ := h
  exact ⟨A, c, ds, h1, h2.up hb hb.size, h3⟩
theorem map_snoc (l : List Int) (d : Int) : (l ++ [d]).map (Value.int .i64) = l.map (Value.int .i64) ++ [.int .i64 d] := by simp
theorem row_snoc {W : World} {B k : Nat} {e : TypeId} {v : Value} {l : List Int} {d : Int} (h : W.ownsRow B e 1 v (k + 1) (l.map (Value.int .i64) ++ [.int .i64 d])) : W.ownsRow B e 1 v (k + 1) ((l ++ [d]).map (Value.int .i64)) := by
  rw [map_snoc]; exact h
theorem ints_len {w : World} {B : Nat} {A : Option Addr} {l : List Int} (h : Ints w B A l) {k : Nat} (hk : k < l.length) : ∃ b off, A = some ⟨b, off, none⟩ ∧ b < B ∧ w.cell? ⟨b, off + k, none⟩ = some (.int .i64 (pick l k)) := by
  obtain ⟨b, off, h1, h2, h3⟩ := h (by omega)
  exact ⟨b, off, h1, h2, h3 k hk⟩
theorem own_big {w : World} {B : Nat} {e : TypeId} {v : Value} {n : Nat} {l : List Int} (h : w.ownsRow B e 1 v n (l.map (Value.int .i64))) (hd : Digits l) {N : Int} (hN : bigVal l = N) {L : Nat} (hL : l.length ≤ L) : BigV w v N L := by
  obtain ⟨A, c, hv, _, hi⟩ := Ints.own h
  exact ⟨A, c, l, hv, hi, hd, hN, hL⟩

set_option maxHeartbeats 4000000 in
set_option maxRecDepth 100000 in
theorem ref03_Add (x y : List Int) (A A' : Option Addr) (c c' : Nat) (w : World) (hx : Ints w w.heap.size A x) (hy : Ints w w.heap.size A' y) (hdx : Digits x) (hdy : Digits y) (hlx : x.length ≤ 1000) (hly : y.length ≤ 1000) :
    Calls Try.prog 103 #[.slice A x.length c, .slice A' y.length c'] w fun e w' => (∃ v, e = .returned v ∧ BigV w' v (bigVal x + bigVal y) (max x.length y.length + 1)) ∧ Below w.heap.size w w' := by
  have HX := Lib.hid hx
  have HY := Lib.hid hy
  have HDX := Lib.hid hdx
  have HDY := Lib.hid hdy
  obtain ⟨i0, hi0, hz0, hz1, hz2⟩ := info_parts info_int64
  clear hx hy hdx hdy
  generalize hnx : x.length = nx at *
  generalize hny : y.length = ny at *
  have HNX := Lib.hid hnx
  have HNY := Lib.hid hny
  clear hnx hny
  go_enter Try.func103, Try.ntmps103
  go_wp2_with fail
  go_loopw [5, 6, 7] (fun s5 s6 s7 wr => ∃ (k : Nat) (cy : Int) (ks : List Int) (v : Value), k ≤ max nx ny + 1 ∧ s7 = .int .i64 k ∧ s6 = .int .i64 cy ∧ v = s5 ∧ 0 ≤ cy ∧ cy ≤ 1 ∧ Hid (SumSt x y k cy ks) ∧ Hid (wr.ownsRow w.heap.size 2 1 v k (ks.map (Value.int .i64))) ∧ Hid (w.heap.size ≤ wr.heap.size) ∧ Hid (Below w.heap.size w wr)) (fun _ s6 s7 _ => 2 * (max nx ny + 1 - (intOf s7).toNat) + (intOf s6).toNat)
  case atStart => exact ⟨0, 0, [], .slice none 0 0, Nat.zero_le _, rfl, rfl, rfl, by omega, by omega, SumSt.begin x y, World.ownsRow_nil _ _ _ _, Nat.le_refl _, Below.refl _ _⟩
  case round =>
    obtain ⟨k, cy, ks, v, hk, rfl, rfl, rfl, hc0, hc1, hs, hown, hsz, BW⟩ := hrel
    have hk1 : k ≤ 1001 := by omega
    by_cases g1 : k < nx
    · have t1 : decide (k < nx) = true := decide_eq_true g1
      have z1 : (k : Int) < (nx : Int) := by omega
      by_cases g2 : k < ny
      · have t2 : decide (k < ny) = true := decide_eq_true g2
        have z2 : (k : Int) < (ny : Int) := by omega
        have hst := hs.out.step HDX.out HDY.out (.inl (by rw [HNX.out]; exact g1))
        obtain ⟨bx, ox, rfl, hbx, hcx⟩ := ints_len HX.out (k := k) (by rw [HNX.out]; exact g1)
        replace hcx := oldCell BW.out hbx hcx
        have hdx := HDX.out.pick k
        obtain ⟨hd0, hd1⟩ := hdx
        obtain ⟨by_, oy, rfl, hby, hcy⟩ := ints_len HY.out (k := k) (by rw [HNY.out]; exact g2)
        replace hcy := oldCell BW.out hby hcy
        have hdy := HDY.out.pick k
        obtain ⟨hf0, hf1⟩ := hdy
        generalize pick x k = d at *
        generalize pick y k = f at *
        have HST := Lib.hid hst
        have hkk : k < max nx ny + 1 := by have := hst.far; rw [HNX.out, HNY.out] at this; omega
        clear hst
        have h6 : 0 ≤ cy + d + f := by omega
        have h7 : (cy + d + f) / 1000000 ≤ 1 := by omega
        have h8 : 0 ≤ (cy + d + f) / 1000000 := by omega
        go_wp2_with (at_builtin; refine wpList_append_own _ rfl _ _ 151 rfl w.heap.size 2 i0 (.int .i64 0) 1 8 Try.underlying151 hi0 hz0 hz1 hz2 rfl (by decide) v k (ks.map (Value.int .i64)) rfl (hown.out.alloc _) ⟨wr.heap.size, 0, none⟩ 1 1 [.int .i64 ((cy + d + f) % 1000000)] rfl rfl ?_ ?_ ?_ ?_ ?_ ?_)
        · exact cells_new wr [.int .i64 ((cy + d + f) % 1000000)] 2
        · simp [Value.oneCell']
        · unfold maxLen; omega
        · omega
        · have := hsz.out; simp; omega
        intro v' w2 hown1 hg1 _
        have hB1 := Lib.hid (below_grown ((Below.refl w.heap.size wr).alloc hsz.out _) (hown.out.alloc _) hg1 (by have := hsz.out; simp; omega))
        have HO1 := Lib.hid hown1
        clear hown1 hg1
        have BW2 := Lib.hid (BW.out.trans (hB1.out.mono (Nat.le_refl _)))
        go_wp2_with fail
        go_roundw
        case rel => exact ⟨k + 1, _, ks ++ [(cy + d + f) % 1000000], v', by omega, by go_num, rfl, rfl, by omega, by omega, HST, row_snoc HO1.out, by have h1 := hB1.out.size; have h2 := hsz.out; unfold Hid; omega, BW2⟩
        case measure => simp [intOf]; omega
      · have t2 : decide (k < ny) = false := decide_eq_false g2
        have hst := hs.out.step HDX.out HDY.out (.inl (by rw [HNX.out]; exact g1))
        obtain ⟨bx, ox, rfl, hbx, hcx⟩ := ints_len HX.out (k := k) (by rw [HNX.out]; exact g1)
        replace hcx := oldCell BW.out hbx hcx
        have hdx := HDX.out.pick k
        obtain ⟨hd0, hd1⟩ := hdx
        rw [pick_out (l := y) (by rw [HNY.out]; exact g2), Int.add_zero] at hst
        generalize pick x k = d at *
        have HST := Lib.hid hst
        have hkk : k < max nx ny + 1 := by have := hst.far; rw [HNX.out, HNY.out] at this; omega
        clear hst
        have h6 : 0 ≤ cy + d := by omega
        have h7 : (cy + d) / 1000000 ≤ 1 := by omega
        have h8 : 0 ≤ (cy + d) / 1000000 := by omega
        go_wp2_with (at_builtin; refine wpList_append_own _ rfl _ _ 151 rfl w.heap.size 2 i0 (.int .i64 0) 1 8 Try.underlying151 hi0 hz0 hz1 hz2 rfl (by decide) v k (ks.map (Value.int .i64)) rfl (hown.out.alloc _) ⟨wr.heap.size, 0, none⟩ 1 1 [.int .i64 ((cy + d) % 1000000)] rfl rfl ?_ ?_ ?_ ?_ ?_ ?_)
        · exact cells_new wr [.int .i64 ((cy + d) % 1000000)] 2
        · simp [Value.oneCell']
        · unfold maxLen; omega
        · omega
        · have := hsz.out; simp; omega
        intro v' w2 hown1 hg1 _
        have hB1 := Lib.hid (below_grown ((Below.refl w.heap.size wr).alloc hsz.out _) (hown.out.alloc _) hg1 (by have := hsz.out; simp; omega))
        have HO1 := Lib.hid hown1
        clear hown1 hg1
        have BW2 := Lib.hid (BW.out.trans (hB1.out.mono (Nat.le_refl _)))
        go_wp2_with fail
        go_roundw
        case rel => exact ⟨k + 1, _, ks ++ [(cy + d) % 1000000], v', by omega, by go_num, rfl, rfl, by omega, by omega, HST, row_snoc HO1.out, by have h1 := hB1.out.size; have h2 := hsz.out; unfold Hid; omega, BW2⟩
        case measure => simp [intOf]; omega
    · have t1 : decide (k < nx) = false := decide_eq_false g1
      by_cases g2 : k < ny
      · have t2 : decide (k < ny) = true := decide_eq_true g2
        have z2 : (k : Int) < (ny : Int) := by omega
        have hst := hs.out.step HDX.out HDY.out (.inr (.inl (by rw [HNY.out]; exact g2)))
        rw [pick_out (l := x) (by rw [HNX.out]; exact g1), Int.add_zero] at hst
        obtain ⟨by_, oy, rfl, hby, hcy⟩ := ints_len HY.out (k := k) (by rw [HNY.out]; exact g2)
        replace hcy := oldCell BW.out hby hcy
        have hdy := HDY.out.pick k
        obtain ⟨hf0, hf1⟩ := hdy
        generalize pick y k = f at *
        have HST := Lib.hid hst
        have hkk : k < max nx ny + 1 := by have := hst.far; rw [HNX.out, HNY.out] at this; omega
        clear hst
        have h6 : 0 ≤ cy + f := by omega
        have h7 : (cy + f) / 1000000 ≤ 1 := by omega
        have h8 : 0 ≤ (cy + f) / 1000000 := by omega
        go_wp2_with (at_builtin; refine wpList_append_own _ rfl _ _ 151 rfl w.heap.size 2 i0 (.int .i64 0) 1 8 Try.underlying151 hi0 hz0 hz1 hz2 rfl (by decide) v k (ks.map (Value.int .i64)) rfl (hown.out.alloc _) ⟨wr.heap.size, 0, none⟩ 1 1 [.int .i64 ((cy + f) % 1000000)] rfl rfl ?_ ?_ ?_ ?_ ?_ ?_)
        · exact cells_new wr [.int .i64 ((cy + f) % 1000000)] 2
        · simp [Value.oneCell']
        · unfold maxLen; omega
        · omega
        · have := hsz.out; simp; omega
        intro v' w2 hown1 hg1 _
        have hB1 := Lib.hid (below_grown ((Below.refl w.heap.size wr).alloc hsz.out _) (hown.out.alloc _) hg1 (by have := hsz.out; simp; omega))
        have HO1 := Lib.hid hown1
        clear hown1 hg1
        have BW2 := Lib.hid (BW.out.trans (hB1.out.mono (Nat.le_refl _)))
        go_wp2_with fail
        go_roundw
        case rel => exact ⟨k + 1, _, ks ++ [(cy + f) % 1000000], v', by omega, by go_num, rfl, rfl, by omega, by omega, HST, row_snoc HO1.out, by have h1 := hB1.out.size; have h2 := hsz.out; unfold Hid; omega, BW2⟩
        case measure => simp [intOf]; omega
      · have t2 : decide (k < ny) = false := decide_eq_false g2
        by_cases g3 : 0 < cy
        · have t3 : decide (0 < cy) = true := decide_eq_true g3
          have hst := hs.out.step HDX.out HDY.out (.inr (.inr g3))
          rw [pick_out (l := x) (by rw [HNX.out]; exact g1), Int.add_zero] at hst
          rw [pick_out (l := y) (by rw [HNY.out]; exact g2), Int.add_zero] at hst
          have HST := Lib.hid hst
          have hkk : k < max nx ny + 1 := by have := hst.far; rw [HNX.out, HNY.out] at this; omega
          clear hst
          have h6 : 0 ≤ cy := by omega
          have h7 : (cy) / 1000000 ≤ 1 := by omega
          have h8 : 0 ≤ (cy) / 1000000 := by omega
          go_wp2_with (at_builtin; refine wpList_append_own _ rfl _ _ 151 rfl w.heap.size 2 i0 (.int .i64 0) 1 8 Try.underlying151 hi0 hz0 hz1 hz2 rfl (by decide) v k (ks.map (Value.int .i64)) rfl (hown.out.alloc _) ⟨wr.heap.size, 0, none⟩ 1 1 [.int .i64 ((cy) % 1000000)] rfl rfl ?_ ?_ ?_ ?_ ?_ ?_)
          · exact cells_new wr [.int .i64 ((cy) % 1000000)] 2
          · simp [Value.oneCell']
          · unfold maxLen; omega
          · omega
          · have := hsz.out; simp; omega
          intro v' w2 hown1 hg1 _
          have hB1 := Lib.hid (below_grown ((Below.refl w.heap.size wr).alloc hsz.out _) (hown.out.alloc _) hg1 (by have := hsz.out; simp; omega))
          have HO1 := Lib.hid hown1
          clear hown1 hg1
          have BW2 := Lib.hid (BW.out.trans (hB1.out.mono (Nat.le_refl _)))
          go_wp2_with fail
          go_roundw
          case rel => exact ⟨k + 1, _, ks ++ [(cy) % 1000000], v', by omega, by go_num, rfl, rfl, by omega, by omega, HST, row_snoc HO1.out, by have h1 := hB1.out.size; have h2 := hsz.out; unfold Hid; omega, BW2⟩
          case measure => simp [intOf]; omega
        · have t3 : decide (0 < cy) = false := decide_eq_false g3
          have HDN := Lib.hid (hs.out.done (by rw [HNX.out]; exact g1) (by rw [HNY.out]; exact g2) g3)
          go_wp2_with fail
          go_ret
          exact ⟨⟨_, rfl, own_big hown.out hs.out.dig HDN.out (by rw [hs.out.len]; omega)⟩, BW.out⟩

set_option maxHeartbeats 4000000 in
set_option maxRecDepth 100000 in
theorem ref03_AtLeast (x y : List Int) (A A' : Option Addr) (c c' : Nat) (w : World) (hx : Ints w w.heap.size A x) (hy : Ints w w.heap.size A' y) (hdx : Digits x) (hdy : Digits y) (hlx : x.length ≤ 1000) (hly : y.length ≤ 1000) :
    Calls Try.prog 104 #[.slice A x.length c, .slice A' y.length c'] w fun e w' => e = .returned (.bool (decide (bigVal y ≤ bigVal x))) ∧ Below w.heap.size w w' := by
  have HX := Lib.hid hx
  have HY := Lib.hid hy
  have HDX := Lib.hid hdx
  have HDY := Lib.hid hdy
  generalize hres : decide (bigVal y ≤ bigVal x) = res
  have HR := Lib.hid hres
  clear hx hy hdx hdy hres
  have hst := SameAbove.top x y
  generalize hnx : x.length = nx at *
  generalize hny : y.length = ny at *
  have HNX := Lib.hid hnx
  have HNY := Lib.hid hny
  have HTOP := Lib.hid hst
  clear hnx hny hst
  go_enter Try.func104, Try.ntmps104
  go_wp2_with fail
  all_goals
    go_loopw [5, 6, 7] (fun s5 _s6 _s7 wr => ∃ (k : Nat), k ≤ max nx ny ∧ (∃ i : Int, s5 = .int .i64 i ∧ i = (k : Int) - 1) ∧ Hid (SameAbove x y k) ∧ Hid (w = wr)) (fun s5 _ _ _ => (intOf s5 + 1).toNat)
    case atStart => exact ⟨max nx ny, Nat.le_refl _, ⟨_, rfl, by omega⟩, HTOP, rfl⟩
    case round =>
      obtain ⟨k, hk, ⟨i, rfl, hi⟩, hsa, hwr⟩ := hrel
      obtain rfl := hwr.out
      clear hwr
      have hkm : k ≤ 1000 := by omega
      by_cases h0 : 0 < k
      · obtain ⟨j, rfl⟩ : ∃ j, k = j + 1 := ⟨k - 1, by omega⟩
        obtain rfl : i = (j : Int) := by omega
        clear hi
        by_cases g1 : j < nx
        · have t1 : decide (j < nx) = true := decide_eq_true g1
          have z1 : (j : Int) < (nx : Int) := by omega
          by_cases g2 : j < ny
          · have t2 : decide (j < ny) = true := decide_eq_true g2
            have z2 : (j : Int) < (ny : Int) := by omega
            obtain ⟨bx, ox, rfl, hbx, hcx⟩ := ints_len HX.out (k := j) (by rw [HNX.out]; exact g1)
            obtain ⟨by_, oy, rfl, hby, hcy⟩ := ints_len HY.out (k := j) (by rw [HNY.out]; exact g2)
            have HLT := Lib.hid (fun h => cmp_less HDX.out HDY.out hsa.out h)
            have HGT := Lib.hid (fun h => cmp_less HDY.out HDX.out (fun i hi => (hsa.out i hi).symm) h)
            have HEQ := Lib.hid (fun h => hsa.out.down h)
            generalize pick x j = d at *
            generalize pick y j = f at *
            by_cases e : d = f
            · have HE := Lib.hid (HEQ.out e)
              have b1 : (d != f) = false := by simp [e]
              clear HLT HGT HEQ e
              go_wp2_with fail
              go_roundw
              case rel => exact ⟨j, by omega, ⟨_, rfl, by omega⟩, HE, trivial⟩
              case measure => first | (simp [intOf]; done) | (simp [intOf]; omega)
            · have b1 : (d != f) = true := by simpa using e
              by_cases l : f < d
              · have b2 : decide (f < d) = true := decide_eq_true l
                have HF := Lib.hid (HGT.out l)
                clear HLT HGT HEQ e l
                go_wp2_with fail
                go_ret
                exact ⟨ret_bool (by rw [← HR.out]; exact (decide_eq_true (by have := HF.out; omega)).symm), Below.refl _ _⟩
              · have b2 : decide (f < d) = false := decide_eq_false l
                have HF := Lib.hid (HLT.out (by omega))
                clear HLT HGT HEQ e l
                go_wp2_with fail
                go_ret
                exact ⟨ret_bool (by rw [← HR.out]; exact (decide_eq_false (by have := HF.out; omega)).symm), Below.refl _ _⟩
          · have t2 : decide (j < ny) = false := decide_eq_false g2
            obtain ⟨bx, ox, rfl, hbx, hcx⟩ := ints_len HX.out (k := j) (by rw [HNX.out]; exact g1)
            have py : pick y j = 0 := pick_out (by rw [HNY.out]; exact g2)
            have HLT := Lib.hid (fun h => cmp_less HDX.out HDY.out hsa.out h)
            have HGT := Lib.hid (fun h => cmp_less HDY.out HDX.out (fun i hi => (hsa.out i hi).symm) h)
            have HEQ := Lib.hid (fun h => hsa.out.down h)
            rw [py] at HLT HGT HEQ; clear py
            generalize pick x j = d at *
            by_cases e : d = 0
            · have HE := Lib.hid (HEQ.out e)
              have b1 : (d != 0) = false := by simp [e]
              clear HLT HGT HEQ e
              go_wp2_with fail
              go_roundw
              case rel => exact ⟨j, by omega, ⟨_, rfl, by omega⟩, HE, trivial⟩
              case measure => first | (simp [intOf]; done) | (simp [intOf]; omega)
            · have b1 : (d != 0) = true := by simpa using e
              by_cases l : 0 < d
              · have b2 : decide (0 < d) = true := decide_eq_true l
                have HF := Lib.hid (HGT.out l)
                clear HLT HGT HEQ e l
                go_wp2_with fail
                go_ret
                exact ⟨ret_bool (by rw [← HR.out]; exact (decide_eq_true (by have := HF.out; omega)).symm), Below.refl _ _⟩
              · have b2 : decide (0 < d) = false := decide_eq_false l
                have HF := Lib.hid (HLT.out (by omega))
                clear HLT HGT HEQ e l
                go_wp2_with fail
                go_ret
                exact ⟨ret_bool (by rw [← HR.out]; exact (decide_eq_false (by have := HF.out; omega)).symm), Below.refl _ _⟩
        · have t1 : decide (j < nx) = false := decide_eq_false g1
          by_cases g2 : j < ny
          · have t2 : decide (j < ny) = true := decide_eq_true g2
            have z2 : (j : Int) < (ny : Int) := by omega
            have px : pick x j = 0 := pick_out (by rw [HNX.out]; exact g1)
            obtain ⟨by_, oy, rfl, hby, hcy⟩ := ints_len HY.out (k := j) (by rw [HNY.out]; exact g2)
            have HLT := Lib.hid (fun h => cmp_less HDX.out HDY.out hsa.out h)
            have HGT := Lib.hid (fun h => cmp_less HDY.out HDX.out (fun i hi => (hsa.out i hi).symm) h)
            have HEQ := Lib.hid (fun h => hsa.out.down h)
            rw [px] at HLT HGT HEQ; clear px
            generalize pick y j = f at *
            by_cases e : 0 = f
            · have HE := Lib.hid (HEQ.out e)
              have b1 : (0 != f) = false := by simp [e]
              clear HLT HGT HEQ e
              go_wp2_with fail
              go_roundw
              case rel => exact ⟨j, by omega, ⟨_, rfl, by omega⟩, HE, trivial⟩
              case measure => first | (simp [intOf]; done) | (simp [intOf]; omega)
            · have b1 : (0 != f) = true := by simpa using e
              by_cases l : f < 0
              · have b2 : decide (f < 0) = true := decide_eq_true l
                have HF := Lib.hid (HGT.out l)
                clear HLT HGT HEQ e l
                go_wp2_with fail
                go_ret
                exact ⟨ret_bool (by rw [← HR.out]; exact (decide_eq_true (by have := HF.out; omega)).symm), Below.refl _ _⟩
              · have b2 : decide (f < 0) = false := decide_eq_false l
                have HF := Lib.hid (HLT.out (by omega))
                clear HLT HGT HEQ e l
                go_wp2_with fail
                go_ret
                exact ⟨ret_bool (by rw [← HR.out]; exact (decide_eq_false (by have := HF.out; omega)).symm), Below.refl _ _⟩
          · have t2 : decide (j < ny) = false := decide_eq_false g2
            have px : pick x j = 0 := pick_out (by rw [HNX.out]; exact g1)
            have py : pick y j = 0 := pick_out (by rw [HNY.out]; exact g2)
            have HLT := Lib.hid (fun h => cmp_less HDX.out HDY.out hsa.out h)
            have HGT := Lib.hid (fun h => cmp_less HDY.out HDX.out (fun i hi => (hsa.out i hi).symm) h)
            have HEQ := Lib.hid (fun h => hsa.out.down h)
            rw [px] at HLT HGT HEQ; clear px
            rw [py] at HLT HGT HEQ; clear py
            have HE := Lib.hid (HEQ.out rfl)
            clear HLT HGT HEQ
            go_wp2_with fail
            go_roundw
            case rel => exact ⟨j, by omega, ⟨_, rfl, by omega⟩, HE, trivial⟩
            case measure => first | (simp [intOf]; done) | (simp [intOf]; omega)
      · obtain rfl : k = 0 := by omega
        obtain rfl : i = -1 := by omega
        have HE := Lib.hid (cmp_all hsa.out)
        clear hi h0 hkm hk
        go_wp2_with fail
        go_ret
        exact ⟨ret_bool (by rw [← HR.out]; exact (decide_eq_true (by have := HE.out; omega)).symm), Below.refl _ _⟩


theorem prodI_range {l : List Int} (hin : ∀ i, i < l.length → 0 ≤ pick l i ∧ pick l i ≤ 1099511627776) : ∀ i, 0 ≤ pick l i ∧ pick l i ≤ 1099511627776 := fun i => by
  rcases Nat.lt_or_ge i l.length with h | h
  · exact hin i h
  · rw [pick_out (by omega)]; omega

set_option maxHeartbeats 8000000 in
set_option maxRecDepth 100000 in
theorem ref03_Product (l : List Int) (A : Option Addr) (c : Nat) (w : World) (hl : Ints w w.heap.size A l) (hin : ∀ i, i < l.length → 0 ≤ pick l i ∧ pick l i ≤ 1099511627776) (hm : l.length ≤ 100) :
    Calls Try.prog 102 #[.slice A l.length c] w fun e w' => (∃ v, e = .returned v ∧ BigV w' v (prodI l l.length) (1 + 3 * l.length)) ∧ Below w.heap.size w w' := by
  have HL := Lib.hid hl
  have HIN := Lib.hid (prodI_range hin)
  have HST := Lib.hid (fun k h => prodI_step l k h)
  obtain ⟨i0, hi0, hz0, hz1, hz2⟩ := info_parts info_int64
  have b0 : Box (w.alloc (.cells #[.int .i64 1] 2)) w.heap.size 2 #[.int .i64 1] := Box.new _ _ _ rfl
  have o0 : Hid (Ints (w.alloc (.cells #[.int .i64 1] 2)) (w.alloc (.cells #[.int .i64 1] 2)).heap.size (some ⟨w.heap.size, 0, none⟩) [1]) := fun _ => ⟨w.heap.size, 0, rfl, by simp, fun i hi => by
    have hi0 : i = 0 := by simpa using hi
    subst hi0
    exact b0.cell 0⟩
  have d0 : Hid (Digits [1]) := fun d hd => by simp at hd; subst hd; omega
  have HB0 := Lib.hid ((Below.refl w.heap.size w).alloc (Nat.le_refl _) (.cells #[.int .i64 1] 2))
  clear hl hin b0
  generalize hn : l.length = n at *
  have HN := Lib.hid hn
  clear hn
  go_enter Try.func102, Try.ntmps102
  go_wp2_with fail
  go_loopw [3, 4, 5, 6, 7] (fun s3 s4 _s5 _s6 _s7 wr => ∃ (i : Nat) (A1 : Option Addr) (c1 : Nat) (os : List Int), i ≤ n ∧ s4 = .int .i64 i ∧ s3 = .slice A1 os.length c1 ∧ os.length ≤ 1 + 3 * i ∧ Hid (Ints wr wr.heap.size A1 os) ∧ Hid (Digits os) ∧ Hid (bigVal os = prodI l i) ∧ Hid (Below w.heap.size w wr)) (fun _ s4 _ _ _ _ => n - (intOf s4).toNat)
  case atStart => exact ⟨0, _, 1, [1], Nat.zero_le _, rfl, rfl, by simp, o0, d0, by simp [bigVal, prodI, Hid], HB0⟩
  case round =>
    rename World => Wo
    obtain ⟨i, A1, c1, os, hi, rfl, rfl, hol, ho, hdo, hvo, BW⟩ := hrel
    by_cases hlt : i < n
    · obtain ⟨bl, off, rfl, hbl, hcl⟩ := ints_len HL.out (k := i) (by rw [HN.out]; exact hlt)
      have e1 := oldCell BW.out hbl hcl
      have hblr : bl < Wo.heap.size := Nat.lt_of_lt_of_le hbl BW.out.size
      obtain ⟨x0, x1⟩ := HIN.out i
      have hstep := Lib.hid (HST.out i hlt)
      have t0 : decide (i < n) = true := decide_eq_true hlt
      have z0 : (i : Int) < (n : Int) := by omega
      clear hcl
      generalize pick l i = x at *
      generalize hno : os.length = no at *
      have HNO := Lib.hid hno
      clear hno
      obtain ⟨wa, hwa⟩ : ∃ wa, Wo.alloc (.cells #[] 2) = wa := ⟨_, rfl⟩
      have HWA := Lib.hid hwa
      have OWN0 : Hid (wa.ownsRow Wo.heap.size 2 1 (.slice (some ⟨Wo.heap.size, 0, none⟩) 0 0) 0 (([] : List Int).map (Value.int .i64))) := by rw [← hwa]; exact World.ownsRow_lit Wo #[] 0 (Nat.le_refl _) (by unfold maxLen; omega) rfl
      have BA := Lib.hid (show Below Wo.heap.size Wo wa by rw [← hwa]; exact (Below.refl _ _).alloc (Nat.le_refl _) _)
      clear hwa
      go_wp2_with fail
      rw [HWA.out]
      go_wp2_with fail
      go_loopw [5, 6, 7] (fun s5 s6 s7 wi => ∃ (k : Nat) (cy : Int) (ks : List Int) (v : Value), k ≤ no + 3 ∧ s7 = .int .i64 k ∧ s5 = .int .i64 cy ∧ v = s6 ∧ 0 ≤ cy ∧ cy ≤ 1099511627776 ∧ Hid (MulSt os x k cy ks) ∧ Hid (wi.ownsRow Wo.heap.size 2 1 v k (ks.map (Value.int .i64))) ∧ Hid (Wo.heap.size ≤ wi.heap.size) ∧ Hid (Below Wo.heap.size Wo wi)) (fun s5 _ s7 _ => (no - (intOf s7).toNat) * 2199023255552 + (intOf s5).toNat)
      case atStart => exact ⟨0, 0, [], _, Nat.zero_le _, rfl, rfl, rfl, by omega, by omega, MulSt.begin os x, OWN0, BA.out.size, BA⟩
      case round =>
        obtain ⟨k, cy, ks, v, hk, rfl, rfl, rfl, hc0, hc1, hs, hown, hsz, BI⟩ := hrel
        have hk2 : k ≤ 310 := by omega
        have BWI := Lib.hid (BW.out.trans (BI.out.mono BW.out.size))
        by_cases g1 : k < no
        · have t1 : decide (k < no) = true := decide_eq_true g1
          have z1 : (k : Int) < (no : Int) := by omega
          have hst := hs.out.digit hdo.out (by rw [HNO.out]; exact g1) x0 x1
          obtain ⟨b1, o1, rfl, hb1, hcc⟩ := ints_len ho.out (k := k) (by rw [HNO.out]; exact g1)
          have e2 := oldCell BI.out hb1 hcc
          have e3 := oldCell BI.out hblr e1
          have hd := hdo.out.pick k
          have hr := mul_room hd.1 hd.2 x0 x1
          clear hcc
          generalize pick os k = d at *
          obtain ⟨r0, r1⟩ := hr
          have w1 : IntKind.i64.wrap (d * x) = d * x := IntWalk.i64_in _ (by omega)
          have w2 : IntKind.i64.wrap (cy + d * x) = cy + d * x := IntWalk.i64_in _ (by omega)
          have HST2 := Lib.hid hst
          have OWD := Lib.hid (own_under hown.out (Below.refl wr.heap.size wr).drew)
          have h6 : 0 ≤ cy + d * x := by omega
          have h7 : (cy + d * x) / 1000000 ≤ 1099511627776 := by omega
          have h8 : 0 ≤ (cy + d * x) / 1000000 := by omega
          clear hst hd
          go_upto_region 11 with fail
          go_region
          generalize d * x = dx at *
          clear w1 w2
          go_wp2_with (at_builtin; refine wpList_append_own _ rfl _ _ 151 rfl Wo.heap.size 2 i0 (.int .i64 0) 1 8 Try.underlying151 hi0 hz0 hz1 hz2 rfl (by decide) v k (ks.map (Value.int .i64)) rfl (OWD.out.alloc _) ⟨wr.heap.size, 0, none⟩ 1 1 [.int .i64 ((cy + dx) % 1000000)] rfl rfl ?_ ?_ ?_ ?_ ?_ ?_)
          · exact cells_new wr.drew [.int .i64 ((cy + dx) % 1000000)] 2
          · simp [Value.oneCell']
          · unfold maxLen; omega
          · omega
          · have := hsz.out; simp; omega
          intro v' w2 hown1 hg1 _
          have hB1 := Lib.hid (below_grown ((Below.refl Wo.heap.size wr).drew.alloc hsz.out _) (OWD.out.alloc _) hg1 (by have := hsz.out; simp; omega))
          have HO1 := Lib.hid hown1
          clear hown1 hg1
          have BW2 := Lib.hid (BI.out.trans (hB1.out.mono (Nat.le_refl _)))
          go_wp2_with fail
          go_roundw
          case rel => exact ⟨k + 1, _, ks ++ [(cy + dx) % 1000000], v', by omega, by go_num, rfl, rfl, by omega, by omega, HST2, row_snoc HO1.out, by have h1 := hB1.out.size; have h2 := hsz.out; unfold Hid; omega, BW2⟩
          case measure => simp [intOf]; omega
        · have t1 : decide (k < no) = false := decide_eq_false g1
          by_cases g3 : 0 < cy
          · have t3 : decide (0 < cy) = true := decide_eq_true g3
            have hst := hs.out.rest (by rw [HNO.out]; omega) g3
            have hfar := hst.far
            rw [HNO.out] at hfar
            have HST2 := Lib.hid hst
            have h7 : cy / 1000000 ≤ 1099511627776 := by omega
            have h8 : 0 ≤ cy / 1000000 := by omega
            clear hst
            go_wp2_with (at_builtin; refine wpList_append_own _ rfl _ _ 151 rfl Wo.heap.size 2 i0 (.int .i64 0) 1 8 Try.underlying151 hi0 hz0 hz1 hz2 rfl (by decide) v k (ks.map (Value.int .i64)) rfl (hown.out.alloc _) ⟨wr.heap.size, 0, none⟩ 1 1 [.int .i64 (cy % 1000000)] rfl rfl ?_ ?_ ?_ ?_ ?_ ?_)
            · exact cells_new wr [.int .i64 (cy % 1000000)] 2
            · simp [Value.oneCell']
            · unfold maxLen; omega
            · omega
            · have := hsz.out; simp; omega
            intro v' w2 hown1 hg1 _
            have hB1 := Lib.hid (below_grown ((Below.refl Wo.heap.size wr).alloc hsz.out _) (hown.out.alloc _) hg1 (by have := hsz.out; simp; omega))
            have HO1 := Lib.hid hown1
            clear hown1 hg1
            have BW2 := Lib.hid (BI.out.trans (hB1.out.mono (Nat.le_refl _)))
            go_wp2_with fail
            go_roundw
            case rel => exact ⟨k + 1, _, ks ++ [cy % 1000000], v', by omega, by go_num, rfl, rfl, by omega, by omega, HST2, row_snoc HO1.out, by have h1 := hB1.out.size; have h2 := hsz.out; unfold Hid; omega, BW2⟩
            case measure => simp [intOf]; omega
          · have t3 : decide (0 < cy) = false := decide_eq_false g3
            have HDN := Lib.hid (hs.out.done (by rw [HNO.out]; omega) g3)
            have HBIG := Lib.hid hs.out
            obtain ⟨A2, c2, rfl, _, hints⟩ := Ints.own hown.out
            have HINT := Lib.hid hints
            have hkl := hs.out.len
            clear hints
            go_wp2_with fail
            go_roundw
            case rel => exact ⟨i + 1, A2, c2, ks, by omega, by go_num, rfl, by omega, HINT, HBIG.out.dig, by unfold Hid; rw [hstep.out, ← hvo.out]; exact HDN.out, BWI⟩
            case measure => simp [intOf]; omega
    · obtain rfl : i = n := by omega
      have t0 : decide (i < i) = false := decide_eq_false hlt
      go_wp2_with fail
      go_ret
      exact ⟨⟨_, rfl, A1, c1, os, rfl, ho.out, hdo.out, hvo.out, hol⟩, BW.out⟩

end Go.Proofs.Ytgcfplkfclapiaa

/- Walks of the package fluid: bubble points and cuttings. -/
namespace Go.Proofs.Ytgcfplkfclapiaa
open Go.RowKit Go.Shelf Mpl

theorem ret_ib {a b : Int} {c d : Bool} (h1 : a = b) (h2 : c = d) : Ending.returned (.tuple #[.int .i64 a, .bool c]) = .returned (.tuple #[.int .i64 b, .bool d]) := by rw [h1, h2]

set_option maxHeartbeats 1000000 in
theorem fluid_Bubble (g : Gas) (w : World) :
    Calls Try.prog 43 #[gasV g] w fun e w' => e = .returned (.tuple #[.int .i64 (bubble g).1, .bool (bubble g).2]) ∧ Below w.heap.size w w' := by
  have H := Lib.hid (fun w => fluid_gas g w)
  have HB := Lib.hid (gas_box g w)
  unfold gasV at *
  cases h1 : gasOk g
  · have hs : Hid (bubble g = (0, false)) := by simp [bubble, h1, Hid]
    rw [h1] at H
    clear HB
    go_enter Try.func43, Try.ntmps43
    go_wp2_with (go_at_call 85; refine (H.out _).mono ?_; rintro e w' ⟨rfl, hb⟩)
    go_ret2
    exact ⟨by rw [hs.out]; rfl, ((Below.refl _ w).alloc (Nat.le_refl _) _).trans (hb.mono (by simp))⟩
  have hg := (gasOk_iff g).1 h1
  obtain ⟨k0, k1, p0, p1⟩ := hg
  have hd : Hid (bubble g = if g.K = 0 then (1, true) else if g.Power = 0 then (0, false) else if 65536 < upDiv g.K g.Power then (0, false) else (upDiv g.K g.Power * 1048576, true)) := by simp [bubble, h1, Hid]
  rw [h1] at H
  clear h1
  rw [hd.out]
  generalize hK : g.K = K at *
  generalize hP : g.Power = P at *
  have hw0 : Below w.heap.size w (w.alloc (.cells #[.int .i64 K, .int .i64 P] 85)) := (by repeat (first | exact Below.refl _ _ | assumption | refine Below.setCell ?_ (by first | (simp; done) | (simp; omega)) _ | refine belowDrewN ?_ _ | refine Below.drew ?_ | refine Below.alloc ?_ (by first | (simp; done) | (simp; omega)) _))
  have HW := Lib.hid hw0
  clear hK hP hd hw0
  by_cases hk : K = 0
  · rw [if_pos hk]
    subst hk
    go_enter Try.func43, Try.ntmps43
    go_wp2_with fail
    refine (H.out _).mono ?_
    rintro e w1 ⟨rfl, hb⟩
    obtain ⟨q0, q1⟩ := gas_load (HB.out.under hb)
    go_wp2_with fail
    go_ret2
    exact ⟨rfl, HW.out.trans (hb.mono HW.out.size)⟩
  rw [if_neg hk]
  have hk0 : (K == 0) = false := beq_eq_false_iff_ne.2 hk
  by_cases hp : P = 0
  · rw [if_pos hp]
    subst hp
    clear hk
    go_enter Try.func43, Try.ntmps43
    go_wp2_with fail
    refine (H.out _).mono ?_
    rintro e w1 ⟨rfl, hb⟩
    obtain ⟨q0, q1⟩ := gas_load (HB.out.under hb)
    go_wp2_with fail
    go_ret2
    exact ⟨rfl, HW.out.trans (hb.mono HW.out.size)⟩
  rw [if_neg hp]
  have hp0 : (P == 0) = false := beq_eq_false_iff_ne.2 hp
  have HU := Lib.hid (fun w => fluid_up K P w (by omega) (by omega) (by omega) (by omega))
  have hun := upDiv_nonneg (a := K) (b := P) (by omega) (by omega)
  clear hk hp
  generalize upDiv K P = q at *
  by_cases hq : 65536 < q
  · rw [if_pos hq]
    have hd : decide (65536 < q) = true := decide_eq_true hq
    clear hq
    go_enter Try.func43, Try.ntmps43
    go_wp2_with fail
    refine (H.out _).mono ?_
    rintro e w1 ⟨rfl, hb⟩
    obtain ⟨q0, q1⟩ := gas_load (HB.out.under hb)
    go_wp2_with (go_at_call 82; refine (HU.out _).mono ?_; rintro e w' ⟨rfl, rfl⟩)
    go_ret2
    exact ⟨rfl, HW.out.trans (hb.mono HW.out.size)⟩
  · rw [if_neg hq]
    have hd : decide (65536 < q) = false := decide_eq_false hq
    have hq1 : q ≤ 65536 := by omega
    clear hq
    go_enter Try.func43, Try.ntmps43
    go_wp2_with fail
    refine (H.out _).mono ?_
    rintro e w1 ⟨rfl, hb⟩
    obtain ⟨q0, q1⟩ := gas_load (HB.out.under hb)
    go_wp2_with (go_at_call 82; refine (HU.out _).mono ?_; rintro e w' ⟨rfl, rfl⟩)
    go_ret2
    exact ⟨ret_ib (by omega) rfl, HW.out.trans (hb.mono HW.out.size)⟩

set_option maxHeartbeats 1000000 in
theorem fluid_Mixed (a r l : Int) (w : World) :
    Calls Try.prog 41 #[.int .i64 a, .int .i64 r, .int .i64 l] w fun e w' => e = .returned (.int .i64 (Mpl.mixed a r l)) ∧ w = w' := by
  cases h1 : within a 0 40000
  · have hs : Hid (Mpl.mixed a r l = 0) := by simp [Mpl.mixed, h1, Hid]
    go_enter Try.func41, Try.ntmps41
    go_wp2_with (go_at_call 62; refine (fluid_within _ _ _ _).mono ?_; rintro e w' ⟨rfl, rfl⟩)
    go_ret
    exact ⟨by rw [hs.out]; rfl, rfl⟩
  cases h2 : within r 0 40000
  · have hs : Hid (Mpl.mixed a r l = 0) := by simp [Mpl.mixed, h2, Hid]
    go_enter Try.func41, Try.ntmps41
    go_wp2_with (go_at_call 62; refine (fluid_within _ _ _ _).mono ?_; rintro e w' ⟨rfl, rfl⟩)
    go_ret
    exact ⟨by rw [hs.out]; rfl, rfl⟩
  cases h3 : within l 0 1000
  · have hs : Hid (Mpl.mixed a r l = 0) := by simp [Mpl.mixed, h3, Hid]
    go_enter Try.func41, Try.ntmps41
    go_wp2_with (go_at_call 62; refine (fluid_within _ _ _ _).mono ?_; rintro e w' ⟨rfl, rfl⟩)
    go_ret
    exact ⟨by rw [hs.out]; rfl, rfl⟩
  have hs : Hid (Mpl.mixed a r l = upDiv (a * (1000 - l) + r * l) 1000) := by simp [Mpl.mixed, h1, h2, h3, Hid]
  have b1 : 0 ≤ a ∧ a ≤ 40000 := by simpa [within] using h1
  have b2 : 0 ≤ r ∧ r ≤ 40000 := by simpa [within] using h2
  have b3 : 0 ≤ l ∧ l ≤ 1000 := by simpa [within] using h3
  have hwl : IntKind.i64.wrap (1000 - l) = 1000 - l := IntWalk.i64_in _ (by omega)
  have m1 : 0 ≤ a * (1000 - l) ∧ a * (1000 - l) ≤ 40000 * 1000 := ⟨Int.mul_nonneg (by omega) (by omega), Int.mul_le_mul b1.2 (by omega) (by omega) (by omega)⟩
  have m2 : 0 ≤ r * l ∧ r * l ≤ 40000 * 1000 := ⟨Int.mul_nonneg (by omega) (by omega), Int.mul_le_mul b2.2 (by omega) (by omega) (by omega)⟩
  obtain ⟨m10, m11⟩ := m1
  obtain ⟨m20, m21⟩ := m2
  have hw1 : IntKind.i64.wrap (a * (1000 - l)) = a * (1000 - l) := IntWalk.i64_in _ (by omega)
  have hw2 : IntKind.i64.wrap (r * l) = r * l := IntWalk.i64_in _ (by omega)
  have hw3 : IntKind.i64.wrap (a * (1000 - l) + r * l) = a * (1000 - l) + r * l := IntWalk.i64_in _ (by omega)
  have HU := Lib.hid (fun w => fluid_up (a * (1000 - l) + r * l) 1000 w (by omega) (by omega) (by omega) (by omega))
  clear b1 b2 b3
  go_enter Try.func41, Try.ntmps41
  go_wp2_with (first | (go_at_call 62; refine (fluid_within _ _ _ _).mono ?_; rintro e w' ⟨rfl, rfl⟩) | (go_at_call 82; (try simp only [hwl, hw1, hw2, hw3]); refine (HU.out _).mono ?_; rintro e w' ⟨rfl, rfl⟩))
  go_ret
  exact ⟨by rw [hs.out]; rfl, rfl⟩

theorem seg_box3 {w : World} {g : Nat} {a b c d : Value} (h : Box w g 29 #[a, b, c, d]) : w.cell? ⟨g, 2, none⟩ = some c := h.cell 2

set_option maxHeartbeats 1000000 in
theorem fluid_Load (s : Seg) (feed flow slip : Int) (w : World) :
    Calls Try.prog 39 #[segV s, .int .i64 feed, .int .i64 flow, .int .i64 slip] w fun e w' => e = .returned (.tuple #[.int .i64 (Mpl.load s feed flow slip).1, .bool (Mpl.load s feed flow slip).2]) ∧ Below w.heap.size w w' := by
  have HSG := Lib.hid (fun w => fluid_segment s w)
  have b0 : Box (w.alloc (.cells #[.int .i64 s.Long, .int .i64 s.Rise, .int .i64 s.Area, .int .i64 s.Gap] 29)) w.heap.size 29 #[.int .i64 s.Long, .int .i64 s.Rise, .int .i64 s.Area, .int .i64 s.Gap] := Box.new _ _ _ rfl
  have hw0 : Below w.heap.size w (w.alloc (.cells #[.int .i64 s.Long, .int .i64 s.Rise, .int .i64 s.Area, .int .i64 s.Gap] 29)) := (by repeat (first | exact Below.refl _ _ | assumption | refine Below.setCell ?_ (by first | (simp; done) | (simp; omega)) _ | refine belowDrewN ?_ _ | refine Below.drew ?_ | refine Below.alloc ?_ (by first | (simp; done) | (simp; omega)) _))
  have HB := Lib.hid b0
  have HW := Lib.hid hw0
  clear b0 hw0
  unfold segV at *
  cases h0 : goodSeg s
  · have hs : Hid (Mpl.load s feed flow slip = (0, false)) := by simp [Mpl.load, h0, Hid]
    rw [h0] at HSG
    go_enter Try.func39, Try.ntmps39
    go_wp2_with fail
    refine (HSG.out _).mono ?_
    rintro e w1 ⟨rfl, hb⟩
    go_wp2_with fail
    go_ret2
    exact ⟨by rw [hs.out]; rfl, HW.out.trans (hb.mono HW.out.size)⟩
  rw [h0] at HSG
  cases h1 : (within feed 0 1000000 && within flow 0 1000000 && within slip 0 1000)
  · have hs : Hid (Mpl.load s feed flow slip = (0, false)) := by simp only [Mpl.load, h0, h1, Bool.true_and, Hid]; rfl
    cases h2 : within feed 0 1000000
    · go_enter Try.func39, Try.ntmps39
      go_wp2_with (go_at_call 81; refine (HSG.out _).mono ?_; rintro e w1 ⟨rfl, hb⟩)
      go_wp2_with (go_at_call 62; refine (fluid_within _ _ _ _).mono ?_; rintro e w' ⟨rfl, rfl⟩; rw [h2])
      go_ret2
      exact ⟨by rw [hs.out]; rfl, HW.out.trans (hb.mono HW.out.size)⟩
    cases h3 : within flow 0 1000000
    · go_enter Try.func39, Try.ntmps39
      go_wp2_with (first | (go_at_call 81; refine (HSG.out _).mono ?_; rintro e w1 ⟨rfl, hb⟩) | (go_at_call 62; refine (fluid_within _ _ _ _).mono ?_; rintro e w' ⟨rfl, rfl⟩; first | rw [h2] | rw [h3]))
      go_ret2
      exact ⟨by rw [hs.out]; rfl, HW.out.trans (hb.mono HW.out.size)⟩
    have h4 : within slip 0 1000 = false := by simpa [h2, h3] using h1
    go_enter Try.func39, Try.ntmps39
    go_wp2_with (first | (go_at_call 81; refine (HSG.out _).mono ?_; rintro e w1 ⟨rfl, hb⟩) | (go_at_call 62; refine (fluid_within _ _ _ _).mono ?_; rintro e w' ⟨rfl, rfl⟩; first | rw [h2] | rw [h3] | rw [h4]))
    go_ret2
    exact ⟨by rw [hs.out]; rfl, HW.out.trans (hb.mono HW.out.size)⟩
  obtain ⟨⟨h2, h3⟩, h4⟩ : (within feed 0 1000000 = true ∧ within flow 0 1000000 = true) ∧ within slip 0 1000 = true := by simpa [Bool.and_eq_true] using h1
  have b1 : 0 ≤ feed ∧ feed ≤ 1000000 := by simpa [within] using h2
  have b2 : 0 ≤ flow ∧ flow ≤ 1000000 := by simpa [within] using h3
  have b3 : 0 ≤ slip ∧ slip ≤ 1000 := by simpa [within] using h4
  have hg := ((goodSeg_iff s).1 h0).1
  have a0 := hg.area0
  have a1 := hg.area1
  have m1 : 0 ≤ slip * s.Area ∧ slip * s.Area ≤ 1000 * 5000 := ⟨Int.mul_nonneg (by omega) (by omega), Int.mul_le_mul b3.2 a1 (by omega) (by omega)⟩
  obtain ⟨m10, m11⟩ := m1
  have hw1 : IntKind.i64.wrap (slip * s.Area) = slip * s.Area := IntWalk.i64_in _ (by omega)
  have hw2 : IntKind.i64.wrap (flow - slip * s.Area) = flow - slip * s.Area := IntWalk.i64_in _ (by omega)
  have hw3 : IntKind.i64.wrap (1000 * feed) = 1000 * feed := IntWalk.i64_in _ (by omega)
  have hd : Hid (Mpl.load s feed flow slip = if flow - slip * s.Area ≤ 0 then (0, false) else (min 1000 (upDiv (1000 * feed) (flow - slip * s.Area)), true)) := by
    simp [Mpl.load, h0, h2, h3, h4, Hid]
  rw [hd.out]
  clear hg hd h0 h1 a0 a1
  by_cases hq : flow - slip * s.Area ≤ 0
  · rw [if_pos hq]
    have hd : decide (flow - slip * s.Area ≤ 0) = true := decide_eq_true hq
    clear hq
    go_enter Try.func39, Try.ntmps39
    go_wp2_with (first | (go_at_call 81; refine (HSG.out _).mono ?_; rintro e w1 ⟨rfl, hb⟩; have q2 := seg_box3 (HB.out.under hb)) | (go_at_call 62; refine (fluid_within _ _ _ _).mono ?_; rintro e w' ⟨rfl, rfl⟩; first | rw [h2] | rw [h3] | rw [h4]))
    go_ret2
    exact ⟨rfl, HW.out.trans (hb.mono HW.out.size)⟩
  · rw [if_neg hq]
    have hd : decide (flow - slip * s.Area ≤ 0) = false := decide_eq_false hq
    have HU := Lib.hid (fun w => fluid_up (1000 * feed) (flow - slip * s.Area) w (by omega) (by omega) (by omega) (by omega))
    clear hq
    go_enter Try.func39, Try.ntmps39
    go_wp2_with (first | (go_at_call 81; refine (HSG.out _).mono ?_; rintro e w1 ⟨rfl, hb⟩; have q2 := seg_box3 (HB.out.under hb)) | (go_at_call 62; refine (fluid_within _ _ _ _).mono ?_; rintro e w' ⟨rfl, rfl⟩; first | rw [h2] | rw [h3] | rw [h4]) | (go_at_call 82; refine (HU.out _).mono ?_; rintro e w' ⟨rfl, rfl⟩))
    all_goals
      go_ret2
      exact ⟨ret_ib (by omega) rfl, HW.out.trans (hb.mono HW.out.size)⟩

end Go.Proofs.Ytgcfplkfclapiaa

/- Walks of the reference of layer 3: gas. -/
namespace Mpl
theorem gasOk_four (g : Gas) : gasOk g = (decide (0 ≤ g.K) && decide (g.K ≤ 1152921504606846976) && decide (0 ≤ g.Power) && decide (g.Power ≤ 1099511627776)) := by
  simp only [gasOk, within, Bool.decide_and, Bool.and_assoc]
/-- the first n at which the power dissolves all -/
theorem bubble_first {g : Gas} (h : GasIn g) (hk : g.K ≠ 0) {n : Int} (h1 : 1 ≤ n) (hn : n ≤ 65536) (hlt : g.Power * (n - 1) < g.K) (hge : g.K ≤ g.Power * n) : bubble g = (n * 1048576, true) := by
  have hok := (gasOk_iff g).2 h
  obtain ⟨k0, k1, p0, p1⟩ := h
  have hp : 0 < g.Power := by
    rcases Int.lt_or_le 0 g.Power with h | h
    · exact h
    · have : g.Power = 0 := by omega
      rw [this] at hge
      simp at hge
      omega
  have hu : upDiv g.K g.Power = n := by
    have s1 := upDiv_spec g.K g.Power hp
    have s2 := upDiv_le hp (q := n) (by rw [Int.mul_comm]; exact hge)
    have s3 : n ≤ upDiv g.K g.Power := by
      rcases Int.lt_or_le (upDiv g.K g.Power) n with h | h
      · have : upDiv g.K g.Power ≤ n - 1 := by omega
        have := Int.mul_le_mul_of_nonneg_left this p0
        rw [Int.mul_comm] at this
        omega
      · exact h
    omega
  unfold bubble
  rw [hok, if_neg (by simp), if_neg hk, if_neg (by omega), hu, if_neg (by omega)]
theorem bubble_never {g : Gas} (h : GasIn g) (hk : g.K ≠ 0) (hlt : g.Power * 65536 < g.K) : bubble g = (0, false) := by
  have hok := (gasOk_iff g).2 h
  obtain ⟨k0, k1, p0, p1⟩ := h
  unfold bubble
  rw [hok, if_neg (by simp), if_neg hk]
  split
  · rfl
  · rename_i hp
    have s1 := upDiv_spec g.K g.Power (by omega)
    rw [if_pos]
    rcases Int.lt_or_le 65536 (upDiv g.K g.Power) with h | h
    · exact h
    · have := Int.mul_le_mul_of_nonneg_left h p0
      rw [Int.mul_comm] at this
      omega
end Mpl
namespace Go.Proofs.Ytgcfplkfclapiaa
open Go.RowKit Go.Shelf Mpl

set_option maxHeartbeats 2000000 in
theorem ref03_gas (g : Gas) (w : World) :
    Calls Try.prog 86 #[gasV g] w fun e w' => e = .returned (.bool (gasOk g)) ∧ Below w.heap.size w w' := by
  rw [gasOk_four]
  unfold gasV
  generalize g.K = a at *
  generalize g.Power = b at *
  cases h1 : decide (0 ≤ a)
  · go_enter Try.func86, Try.ntmps86
    go_wp2_with fail
    go_ret
    exact ⟨rfl, (by repeat (first | exact Below.refl _ _ | assumption | refine Below.setCell ?_ (by first | (simp; done) | (simp; omega)) _ | refine belowDrewN ?_ _ | refine Below.drew ?_ | refine Below.alloc ?_ (by first | (simp; done) | (simp; omega)) _))⟩
  cases h2 : decide (a ≤ 1152921504606846976)
  · go_enter Try.func86, Try.ntmps86
    go_wp2_with fail
    go_ret
    exact ⟨rfl, (by repeat (first | exact Below.refl _ _ | assumption | refine Below.setCell ?_ (by first | (simp; done) | (simp; omega)) _ | refine belowDrewN ?_ _ | refine Below.drew ?_ | refine Below.alloc ?_ (by first | (simp; done) | (simp; omega)) _))⟩
  cases h3 : decide (0 ≤ b)
  · go_enter Try.func86, Try.ntmps86
    go_wp2_with fail
    go_ret
    exact ⟨rfl, (by repeat (first | exact Below.refl _ _ | assumption | refine Below.setCell ?_ (by first | (simp; done) | (simp; omega)) _ | refine belowDrewN ?_ _ | refine Below.drew ?_ | refine Below.alloc ?_ (by first | (simp; done) | (simp; omega)) _))⟩
  · go_enter Try.func86, Try.ntmps86
    go_wp2_with fail
    go_ret
    exact ⟨rfl, (by repeat (first | exact Below.refl _ _ | assumption | refine Below.setCell ?_ (by first | (simp; done) | (simp; omega)) _ | refine belowDrewN ?_ _ | refine Below.drew ?_ | refine Below.alloc ?_ (by first | (simp; done) | (simp; omega)) _))⟩

theorem ref03_up (a b : Int) (w : World) (h0 : 0 ≤ a) (h1 : a ≤ 2305843009213693952) (h2 : 1 ≤ b) (h3 : b ≤ 2305843009213693952) :
    Calls Try.prog 84 #[.int .i64 a, .int .i64 b] w fun e w' => e = .returned (.int .i64 (upDiv a b)) ∧ w = w' := by
  have hz : (b == 0) = false := beq_eq_false_iff_ne.2 (by omega)
  have hd : Hid (upDiv a b = (a + b - 1) / b) := rfl
  have hz1 : 0 ≤ a + b - 1 := by omega
  have hq : 0 ≤ (a + b - 1) / b := Int.ediv_nonneg (by omega) (by omega)
  have hq2 : (a + b - 1) / b ≤ a + b - 1 := Int.ediv_le_self _ (by omega)
  go_enter Try.func84, Try.ntmps84
  go_wp2_with fail
  go_ret
  exact ⟨ret_int hd.out.symm, rfl⟩

set_option maxHeartbeats 1000000 in
theorem ref03_Free (g : Gas) (p : Int) (w : World) :
    Calls Try.prog 46 #[gasV g, .int .i64 p] w fun e w' => e = .returned (.int .i64 (free g p)) ∧ Below w.heap.size w w' := by
  have H := Lib.hid (fun w => ref03_gas g w)
  have HB := Lib.hid (gas_box g w)
  unfold gasV at *
  cases h1 : gasOk g
  · have hs : Hid (free g p = 0) := by simp [free, h1, Hid]
    rw [h1] at H
    clear HB
    go_enter Try.func46, Try.ntmps46
    go_wp2_with (go_at_call 86; refine (H.out _).mono ?_; rintro e w' ⟨rfl, hb⟩)
    go_ret
    exact ⟨by rw [hs.out]; rfl, ((Below.refl _ w).alloc (Nat.le_refl _) _).trans (hb.mono (by simp))⟩
  · by_cases hp1 : 1 ≤ p
    case neg =>
      have hs : Hid (free g p = 0) := by simp [free, within, hp1, Hid]
      have d1 : decide (p < 1) = true := decide_eq_true (by omega)
      rw [h1] at H
      clear HB
      go_enter Try.func46, Try.ntmps46
      go_wp2_with (go_at_call 86; refine (H.out _).mono ?_; rintro e w' ⟨rfl, hb⟩)
      go_ret
      exact ⟨by rw [hs.out]; rfl, ((Below.refl _ w).alloc (Nat.le_refl _) _).trans (hb.mono (by simp))⟩
    have d1 : decide (p < 1) = false := decide_eq_false (by omega)
    by_cases hp2 : p ≤ 68719476736
    case neg =>
      have hs : Hid (free g p = 0) := by simp [free, within, hp2, Hid]
      have d2 : decide (68719476736 < p) = true := decide_eq_true (by omega)
      rw [h1] at H
      clear HB
      go_enter Try.func46, Try.ntmps46
      go_wp2_with (go_at_call 86; refine (H.out _).mono ?_; rintro e w' ⟨rfl, hb⟩)
      go_ret
      exact ⟨by rw [hs.out]; rfl, ((Below.refl _ w).alloc (Nat.le_refl _) _).trans (hb.mono (by simp))⟩
    have d2 : decide (68719476736 < p) = false := decide_eq_false (by omega)
    have hg := (gasOk_iff g).1 h1
    have hs := Lib.hid (free_eq hg hp1 hp2)
    obtain ⟨k0, k1, m0, m1⟩ := hg
    have e0 : 0 ≤ p / 1048576 := Int.ediv_nonneg (by omega) (by omega)
    have e1 : p / 1048576 ≤ 65536 := by omega
    have pr0 : 0 ≤ g.Power * (p / 1048576) := Int.mul_nonneg m0 e0
    have pr1 : g.Power * (p / 1048576) ≤ 72057594037927936 := by
      have a := Int.mul_le_mul_of_nonneg_left e1 m0
      omega
    rw [h1] at H
    go_enter Try.func46, Try.ntmps46
    go_wp2_with fail
    refine (H.out _).mono ?_
    rintro e w' ⟨rfl, hb⟩
    obtain ⟨q0, q1⟩ := gas_load (HB.out.under hb)
    have hb' := ((Below.refl _ w).alloc (Nat.le_refl _) (.cells #[.int .i64 g.K, .int .i64 g.Power] 85)).trans (hb.mono (by simp))
    clear hb
    go_wp2_with fail
    all_goals
      go_ret
      exact ⟨ret_int (by rw [hs.out]; omega), hb'⟩


set_option maxHeartbeats 2000000 in
set_option maxRecDepth 100000 in
theorem ref03_Space (g : Gas) (p : Int) (w : World) :
    Calls Try.prog 48 #[gasV g, .int .i64 p] w fun e w' => e = .returned (.agg #[.int .i64 (space g p).Lo, .int .i64 (space g p).Hi]) ∧ Below w.heap.size w w' := by
  have H := Lib.hid (fun w => ref03_gas g w)
  have HF := Lib.hid (fun w => ref03_Free g p w)
  have HB := gas_box g w
  have hfb := free_bound g p
  have hz : free g p = 0 → space g p = ⟨0, 0⟩ := fun h => by simp [space, h]
  unfold gasV at *
  obtain ⟨w0, hw0⟩ : ∃ w0, ((w.alloc (.cells #[.int .i64 g.K, .int .i64 g.Power] 85)).alloc (.cells #[.int .i64 0, .int .i64 0] 34)) = w0 := ⟨_, rfl⟩
  have b1 : Box w0 (w.heap.size + 1) 34 #[.int .i64 0, .int .i64 0] := by rw [← hw0]; exact Box.new _ _ _ (by simp)
  have b2 : Box w0 w.heap.size 85 #[.int .i64 g.K, .int .i64 g.Power] := by rw [← hw0]; exact HB.alloc _
  have hB0 : Below w.heap.size w w0 := by rw [← hw0]; exact (by repeat (first | exact Below.refl _ _ | assumption | refine Below.setCell ?_ (by first | (simp; done) | (simp; omega)) _ | refine belowDrewN ?_ _ | refine Below.drew ?_ | refine Below.alloc ?_ (by first | (simp; done) | (simp; omega)) _))
  have HW0 := Lib.hid hw0
  have B1 := Lib.hid b1
  have B2 := Lib.hid b2
  have HB0 := Lib.hid hB0
  clear hw0 b1 b2 hB0 HB
  cases h1 : gasOk g
  · have hs : Hid (space g p = ⟨0, 0⟩) := hz (by simp [free, h1])
    rw [h1] at H
    clear hfb hz HF
    go_enter Try.func48, Try.ntmps48
    go_wp2_with fail
    rw [HW0.out]
    refine (H.out _).mono ?_
    rintro e w' ⟨rfl, hb⟩
    have b1 := B1.out.under hb
    have B := Lib.hid (HB0.out.trans (hb.mono HB0.out.size))
    have BX := Lib.hid b1
    obtain ⟨q0, q1⟩ := (⟨b1.cell 0, b1.cell 1⟩ : w'.cell? ⟨w.heap.size + 1, 0, none⟩ = some (.int .i64 0) ∧ w'.cell? ⟨w.heap.size + 1, 1, none⟩ = some (.int .i64 0))
    obtain ⟨f0, f1⟩ := (⟨b1.frozen 0, b1.frozen 1⟩ : w'.frozen? ⟨w.heap.size + 1, 0, none⟩ = false ∧ w'.frozen? ⟨w.heap.size + 1, 1, none⟩ = false)
    clear hb b1
    go_wp2_with fail
    refine bodyPost_ret (results_cell1 rfl _ _ _ (w.heap.size + 1) _ rfl (load_rng (t := 34) (by simpa using (BX.out.set_ 0 (.int .i64 0)).set_ 1 (.int .i64 0)))) rfl ⟨by rw [hs.out], ?_⟩
    exact (B.out.setCell (p := ⟨w.heap.size + 1, 0, none⟩) (by simp) _).setCell (p := ⟨w.heap.size + 1, 1, none⟩) (by simp) _
  rw [h1] at H
  by_cases hp1 : 1 ≤ p
  case neg =>
    have hs : Hid (space g p = ⟨0, 0⟩) := hz (by simp [free, within, hp1])
    have d1 : decide (p < 1) = true := decide_eq_true (by omega)
    clear hfb hz HF
    go_enter Try.func48, Try.ntmps48
    go_wp2_with fail
    rw [HW0.out]
    refine (H.out _).mono ?_
    rintro e w' ⟨rfl, hb⟩
    have b1 := B1.out.under hb
    have B := Lib.hid (HB0.out.trans (hb.mono HB0.out.size))
    have BX := Lib.hid b1
    obtain ⟨q0, q1⟩ := (⟨b1.cell 0, b1.cell 1⟩ : w'.cell? ⟨w.heap.size + 1, 0, none⟩ = some (.int .i64 0) ∧ w'.cell? ⟨w.heap.size + 1, 1, none⟩ = some (.int .i64 0))
    obtain ⟨f0, f1⟩ := (⟨b1.frozen 0, b1.frozen 1⟩ : w'.frozen? ⟨w.heap.size + 1, 0, none⟩ = false ∧ w'.frozen? ⟨w.heap.size + 1, 1, none⟩ = false)
    clear hb b1
    go_wp2_with fail
    refine bodyPost_ret (results_cell1 rfl _ _ _ (w.heap.size + 1) _ rfl (load_rng (t := 34) (by simpa using (BX.out.set_ 0 (.int .i64 0)).set_ 1 (.int .i64 0)))) rfl ⟨by rw [hs.out], ?_⟩
    exact (B.out.setCell (p := ⟨w.heap.size + 1, 0, none⟩) (by simp) _).setCell (p := ⟨w.heap.size + 1, 1, none⟩) (by simp) _
  have d1 : decide (p < 1) = false := decide_eq_false (by omega)
  by_cases hp2 : p ≤ 68719476736
  case neg =>
    have hs : Hid (space g p = ⟨0, 0⟩) := hz (by simp [free, within, hp2])
    have d2 : decide (68719476736 < p) = true := decide_eq_true (by omega)
    clear hfb hz HF
    go_enter Try.func48, Try.ntmps48
    go_wp2_with fail
    rw [HW0.out]
    refine (H.out _).mono ?_
    rintro e w' ⟨rfl, hb⟩
    have b1 := B1.out.under hb
    have B := Lib.hid (HB0.out.trans (hb.mono HB0.out.size))
    have BX := Lib.hid b1
    obtain ⟨q0, q1⟩ := (⟨b1.cell 0, b1.cell 1⟩ : w'.cell? ⟨w.heap.size + 1, 0, none⟩ = some (.int .i64 0) ∧ w'.cell? ⟨w.heap.size + 1, 1, none⟩ = some (.int .i64 0))
    obtain ⟨f0, f1⟩ := (⟨b1.frozen 0, b1.frozen 1⟩ : w'.frozen? ⟨w.heap.size + 1, 0, none⟩ = false ∧ w'.frozen? ⟨w.heap.size + 1, 1, none⟩ = false)
    clear hb b1
    go_wp2_with fail
    refine bodyPost_ret (results_cell1 rfl _ _ _ (w.heap.size + 1) _ rfl (load_rng (t := 34) (by simpa using (BX.out.set_ 0 (.int .i64 0)).set_ 1 (.int .i64 0)))) rfl ⟨by rw [hs.out], ?_⟩
    exact (B.out.setCell (p := ⟨w.heap.size + 1, 0, none⟩) (by simp) _).setCell (p := ⟨w.heap.size + 1, 1, none⟩) (by simp) _
  have d2 : decide (68719476736 < p) = false := decide_eq_false (by omega)
  have hs : Hid (space g p = ⟨free g p / p, upDiv (free g p) p⟩) := space_eq g hp1
  have hz2 : (p == 0) = false := beq_eq_false_iff_ne.2 (by omega)
  obtain ⟨g1, g2⟩ := hfb
  have HU := Lib.hid (fun w => ref03_up (free g p) p w g1 (by omega) hp1 (by omega))
  have hq : 0 ≤ free g p / p := Int.ediv_nonneg g1 (by omega)
  have hq2 : free g p / p ≤ free g p := Int.ediv_le_self _ g1
  clear hz h1
  generalize free g p = f at *
  generalize upDiv f p = ud at *
  have hp0 : ¬ p = 0 := by omega
  have hwr : IntKind.i64.wrap (f.tdiv p) = f / p := by
    rw [Int.tdiv_eq_ediv_of_nonneg g1]
    exact IntWalk.i64_in _ (by omega)
  go_enter Try.func48, Try.ntmps48
  go_wp2_with fail
  rw [HW0.out]
  refine (H.out _).mono ?_
  rintro e w' ⟨rfl, hb⟩
  obtain ⟨q2, q3⟩ := gas_load (B2.out.under hb)
  have X1 := Lib.hid (B1.out.under hb)
  have Y1 := Lib.hid (HB0.out.trans (hb.mono HB0.out.size))
  clear hb
  go_wp2_with fail
  refine (HF.out _).mono ?_
  rintro e w2 ⟨rfl, hb⟩
  have b1 := X1.out.under hb
  have B := Lib.hid (Y1.out.trans (hb.mono Y1.out.size))
  have BX := Lib.hid b1
  obtain ⟨q0, q1⟩ := (⟨b1.cell 0, b1.cell 1⟩ : w2.cell? ⟨w.heap.size + 1, 0, none⟩ = some (.int .i64 0) ∧ w2.cell? ⟨w.heap.size + 1, 1, none⟩ = some (.int .i64 0))
  obtain ⟨f0, f1⟩ := (⟨b1.frozen 0, b1.frozen 1⟩ : w2.frozen? ⟨w.heap.size + 1, 0, none⟩ = false ∧ w2.frozen? ⟨w.heap.size + 1, 1, none⟩ = false)
  clear hb b1
  go_wp2_with fail
  refine wp_region_still_tail 7 mixed (by kernel_rfl) ?_
  simp only [List.take_succ_cons, List.take_zero, List.drop_succ_cons, List.drop_zero]
  repeat still_step
  still_call (quiet_of (HU.out _))
  repeat still_step
  refine wpStill_nil ?_
  clear hwr
  go_wp2_with fail
  refine bodyPost_ret (results_cell1 rfl _ _ _ (w.heap.size + 1) _ rfl (load_rng (t := 34) (by simpa using ((BX.out.set_ 0 (.int .i64 (f / p))).set_ 1 (.int .i64 ud)).drew))) rfl ⟨by rw [hs.out], ?_⟩
  exact ((B.out.setCell (p := ⟨w.heap.size + 1, 0, none⟩) (by simp) _).setCell (p := ⟨w.heap.size + 1, 1, none⟩) (by simp) _).drew

set_option maxHeartbeats 2000000 in
set_option maxRecDepth 100000 in
theorem ref03_Bubble (g : Gas) (w : World) :
    Calls Try.prog 44 #[gasV g] w fun e w' => e = .returned (.tuple #[.int .i64 (bubble g).1, .bool (bubble g).2]) ∧ Below w.heap.size w w' := by
  have H := Lib.hid (fun w => ref03_gas g w)
  have HB := Lib.hid (gas_box g w)
  have HFI := Lib.hid (fun h hk n h1 hn hlt hge => bubble_first (g := g) h hk (n := n) h1 hn hlt hge)
  have HNE := Lib.hid (fun h hk hlt => bubble_never (g := g) h hk hlt)
  have hbad : gasOk g = false → bubble g = (0, false) := fun h => by simp [bubble, h]
  have hno : gasOk g = true → g.K = 0 → bubble g = (1, true) := fun h hk => by simp [bubble, h, hk]
  unfold gasV at *
  have hw0 : Below w.heap.size w (w.alloc (.cells #[.int .i64 g.K, .int .i64 g.Power] 85)) := (by repeat (first | exact Below.refl _ _ | assumption | refine Below.setCell ?_ (by first | (simp; done) | (simp; omega)) _ | refine belowDrewN ?_ _ | refine Below.drew ?_ | refine Below.alloc ?_ (by first | (simp; done) | (simp; omega)) _))
  have HW := Lib.hid hw0
  clear hw0
  cases h1 : gasOk g
  · have hs := Lib.hid (hbad h1)
    rw [h1] at H
    clear hbad hno HFI HNE
    go_enter Try.func44, Try.ntmps44
    go_wp2_with fail
    refine (H.out _).mono ?_
    rintro e w' ⟨rfl, hb⟩
    go_wp2_with fail
    go_ret2
    exact ⟨by rw [hs.out]; rfl, HW.out.trans (hb.mono HW.out.size)⟩
  have HG := Lib.hid ((gasOk_iff g).1 h1)
  rw [h1] at H
  by_cases hk : g.K = 0
  · have hs := Lib.hid (hno h1 hk)
    have hk0 : (g.K == 0) = true := beq_iff_eq.2 hk
    clear hbad hno HFI HNE hk
    go_enter Try.func44, Try.ntmps44
    go_wp2_with fail
    refine (H.out _).mono ?_
    rintro e w' ⟨rfl, hb⟩
    obtain ⟨q0, q1⟩ := gas_load (HB.out.under hb)
    go_wp2_with fail
    go_ret2
    exact ⟨by rw [hs.out]; rfl, HW.out.trans (hb.mono HW.out.size)⟩
  have hk0 : (g.K == 0) = false := beq_eq_false_iff_ne.2 hk
  have HFI2 := Lib.hid (fun n h1 hn hlt hge => HFI.out HG.out hk n h1 hn hlt hge)
  have HNE2 := Lib.hid (fun hlt => HNE.out HG.out hk hlt)
  obtain ⟨k0, k1, p0, p1⟩ := HG.out
  have hkp : 0 < g.K := by omega
  clear hbad hno HFI HNE h1 hk HG
  generalize bubble g = res at *
  generalize g.K = K at *
  generalize g.Power = P at *
  go_enter Try.func44, Try.ntmps44
  go_wp2_with fail
  refine (H.out _).mono ?_
  rintro e w1 ⟨rfl, hb⟩
  have B1 := Lib.hid (HB.out.under hb)
  have BW := Lib.hid (HW.out.trans (hb.mono HW.out.size))
  obtain ⟨q0, q1⟩ := gas_load B1.out
  clear hb
  go_wp2_with fail
  go_loop [4] (fun s4 => ∃ n : Nat, 1 ≤ n ∧ n ≤ 65537 ∧ s4 = .int .i64 n ∧ Hid (P * ((n : Int) - 1) < K)) (fun s4 => 65537 - (intOf s4).toNat)
  case atStart => exact ⟨1, by omega, by omega, rfl, by unfold Hid; simpa using hkp⟩
  case round =>
    obtain ⟨n, hn1, hn2, rfl, hn⟩ := hrel
    by_cases hl : n ≤ 65536
    · have t1 : decide ((n : Int) ≤ 65536) = true := decide_eq_true (by omega)
      have m0 : 0 ≤ P * (n : Int) := Int.mul_nonneg p0 (by omega)
      have m1 : P * (n : Int) ≤ 72057594037927936 := by
        have a := Int.mul_le_mul p1 (show (n : Int) ≤ 65536 by omega) (by omega) (by omega)
        omega
      have hw1 : IntKind.i64.wrap (P * (n : Int)) = P * (n : Int) := IntWalk.i64_in _ (by omega)
      by_cases hge : K ≤ P * (n : Int)
      · have t2 : decide (K ≤ P * (n : Int)) = true := decide_eq_true hge
        have hs := Lib.hid (HFI2.out n (by omega) (by omega) hn.out hge)
        go_wp2_with fail
        go_ret2
        exact ⟨ret_ib (by rw [hs.out]) (by rw [hs.out]), BW.out⟩
      · have t2 : decide (K ≤ P * (n : Int)) = false := decide_eq_false hge
        have hnx : Hid (P * (((n + 1 : Nat) : Int) - 1) < K) := by
          unfold Hid
          rw [show (((n + 1 : Nat) : Int) - 1) = (n : Int) by omega]
          omega
        go_wp2_with fail
        go_round
        case rel => exact ⟨n + 1, by omega, by omega, by go_num, hnx⟩
        case measure => simp [intOf]; omega
    · have t1 : decide ((n : Int) ≤ 65536) = false := decide_eq_false (by omega)
      have hs := Lib.hid (HNE2.out (by have := hn.out; rw [show ((n : Int) - 1) = 65536 by omega] at this; exact this))
      go_wp2_with fail
      go_ret2
      exact ⟨by rw [hs.out]; rfl, BW.out⟩

end Go.Proofs.Ytgcfplkfclapiaa

/- Walks of the reference of layer 3: segments, cuttings. -/
namespace Mpl
theorem goodSeg_chain (s : Seg) : goodSeg s = (decide (1 ≤ s.Long) && decide (s.Long ≤ 1048576) && decide (0 ≤ s.Rise) && decide (s.Rise ≤ s.Long) && decide (1 ≤ s.Area) && decide (s.Area ≤ 5000) && decide (1 ≤ s.Gap) && decide (s.Gap ≤ 200)) := by
  rw [Bool.eq_iff_iff]
  simp only [goodSeg, fairSeg, within, Bool.and_eq_true, decide_eq_true_eq]
  omega
/-- what the reference asks of a load -/
def loadOk (s : Seg) (feed flow slip : Int) : Bool := goodSeg s && decide (0 ≤ feed) && decide (feed ≤ 1000000) && decide (0 ≤ flow) && decide (flow ≤ 1000000) && decide (0 ≤ slip) && decide (slip ≤ 1000)
theorem load_ok (s : Seg) (feed flow slip : Int) : Mpl.load s feed flow slip = if loadOk s feed flow slip then (if flow - slip * s.Area ≤ 0 then (0, false) else (min 1000 (upDiv (1000 * feed) (flow - slip * s.Area)), true)) else (0, false) := by
  unfold Mpl.load
  have : (goodSeg s && within feed 0 1000000 && within flow 0 1000000 && within slip 0 1000) = loadOk s feed flow slip := by
    unfold loadOk
    rw [Bool.eq_iff_iff]
    simp only [within, Bool.and_eq_true, decide_eq_true_eq]
    constructor
    · rintro ⟨⟨⟨h, _⟩, _⟩, _⟩; refine ⟨⟨⟨⟨⟨⟨h, ?_⟩, ?_⟩, ?_⟩, ?_⟩, ?_⟩, ?_⟩ <;> omega
    · rintro ⟨⟨⟨⟨⟨⟨h, _⟩, _⟩, _⟩, _⟩, _⟩, _⟩; refine ⟨⟨⟨h, ?_⟩, ?_⟩, ?_⟩ <;> omega
  rw [this]
def mixedOk (a r l : Int) : Bool := decide (0 ≤ a) && decide (a ≤ 40000) && decide (0 ≤ r) && decide (r ≤ 40000) && decide (0 ≤ l) && decide (l ≤ 1000)
theorem mixed_ok (a r l : Int) : Mpl.mixed a r l = if mixedOk a r l then upDiv (1000 * a + (r - a) * l) 1000 else 0 := by
  unfold Mpl.mixed
  have : (within a 0 40000 && within r 0 40000 && within l 0 1000) = mixedOk a r l := by
    unfold mixedOk
    rw [Bool.eq_iff_iff]
    simp only [within, Bool.and_eq_true, decide_eq_true_eq]
    omega
  rw [this]
  have e : a * (1000 - l) + r * l = 1000 * a + (r - a) * l := by rw [Int.mul_sub, Int.sub_mul]; omega
  rw [e]
end Mpl
namespace Go.Proofs.Ytgcfplkfclapiaa
open Go.RowKit Go.Shelf Mpl

set_option maxHeartbeats 4000000 in
theorem ref03_Seg (s : Seg) (w : World) :
    Calls Try.prog 83 #[segV s] w fun e w' => e = .returned (.bool (goodSeg s)) ∧ Below w.heap.size w w' := by
  rw [goodSeg_chain]
  unfold segV
  generalize s.Long = a at *
  generalize s.Rise = b at *
  generalize s.Area = c at *
  generalize s.Gap = d at *
  cases h1 : decide (1 ≤ a)
  · go_enter Try.func83, Try.ntmps83
    go_wp2_with fail
    go_ret
    exact ⟨rfl, (by repeat (first | exact Below.refl _ _ | assumption | refine Below.setCell ?_ (by first | (simp; done) | (simp; omega)) _ | refine belowDrewN ?_ _ | refine Below.drew ?_ | refine Below.alloc ?_ (by first | (simp; done) | (simp; omega)) _))⟩
  cases h2 : decide (a ≤ 1048576)
  · go_enter Try.func83, Try.ntmps83
    go_wp2_with fail
    go_ret
    exact ⟨rfl, (by repeat (first | exact Below.refl _ _ | assumption | refine Below.setCell ?_ (by first | (simp; done) | (simp; omega)) _ | refine belowDrewN ?_ _ | refine Below.drew ?_ | refine Below.alloc ?_ (by first | (simp; done) | (simp; omega)) _))⟩
  cases h3 : decide (0 ≤ b)
  · go_enter Try.func83, Try.ntmps83
    go_wp2_with fail
    go_ret
    exact ⟨rfl, (by repeat (first | exact Below.refl _ _ | assumption | refine Below.setCell ?_ (by first | (simp; done) | (simp; omega)) _ | refine belowDrewN ?_ _ | refine Below.drew ?_ | refine Below.alloc ?_ (by first | (simp; done) | (simp; omega)) _))⟩
  cases h4 : decide (b ≤ a)
  · go_enter Try.func83, Try.ntmps83
    go_wp2_with fail
    go_ret
    exact ⟨rfl, (by repeat (first | exact Below.refl _ _ | assumption | refine Below.setCell ?_ (by first | (simp; done) | (simp; omega)) _ | refine belowDrewN ?_ _ | refine Below.drew ?_ | refine Below.alloc ?_ (by first | (simp; done) | (simp; omega)) _))⟩
  cases h5 : decide (1 ≤ c)
  · go_enter Try.func83, Try.ntmps83
    go_wp2_with fail
    go_ret
    exact ⟨rfl, (by repeat (first | exact Below.refl _ _ | assumption | refine Below.setCell ?_ (by first | (simp; done) | (simp; omega)) _ | refine belowDrewN ?_ _ | refine Below.drew ?_ | refine Below.alloc ?_ (by first | (simp; done) | (simp; omega)) _))⟩
  cases h6 : decide (c ≤ 5000)
  · go_enter Try.func83, Try.ntmps83
    go_wp2_with fail
    go_ret
    exact ⟨rfl, (by repeat (first | exact Below.refl _ _ | assumption | refine Below.setCell ?_ (by first | (simp; done) | (simp; omega)) _ | refine belowDrewN ?_ _ | refine Below.drew ?_ | refine Below.alloc ?_ (by first | (simp; done) | (simp; omega)) _))⟩
  cases h7 : decide (1 ≤ d)
  · go_enter Try.func83, Try.ntmps83
    go_wp2_with fail
    go_ret
    exact ⟨rfl, (by repeat (first | exact Below.refl _ _ | assumption | refine Below.setCell ?_ (by first | (simp; done) | (simp; omega)) _ | refine belowDrewN ?_ _ | refine Below.drew ?_ | refine Below.alloc ?_ (by first | (simp; done) | (simp; omega)) _))⟩
  · go_enter Try.func83, Try.ntmps83
    go_wp2_with fail
    go_ret
    exact ⟨rfl, (by repeat (first | exact Below.refl _ _ | assumption | refine Below.setCell ?_ (by first | (simp; done) | (simp; omega)) _ | refine belowDrewN ?_ _ | refine Below.drew ?_ | refine Below.alloc ?_ (by first | (simp; done) | (simp; omega)) _))⟩

set_option maxHeartbeats 4000000 in
theorem ref03_Mixed (a r l : Int) (w : World) :
    Calls Try.prog 42 #[.int .i64 a, .int .i64 r, .int .i64 l] w fun e w' => e = .returned (.int .i64 (Mpl.mixed a r l)) ∧ w = w' := by
  have hs := Lib.hid (mixed_ok a r l)
  generalize Mpl.mixed a r l = res at *
  by_cases h1 : 0 ≤ a
  case neg =>
    have hf : Hid (res = 0) := by unfold Hid; rw [hs.out]; simp [mixedOk, h1]
    have d1 : decide (a < 0) = true := decide_eq_true (by omega)
    go_enter Try.func42, Try.ntmps42
    go_wp2_with fail
    go_ret
    exact ⟨ret_int hf.out.symm, rfl⟩
  have d1 : decide (a < 0) = false := decide_eq_false (by omega)
  by_cases h2 : a ≤ 40000
  case neg =>
    have hf : Hid (res = 0) := by unfold Hid; rw [hs.out]; simp [mixedOk, h2]
    have d2 : decide (40000 < a) = true := decide_eq_true (by omega)
    go_enter Try.func42, Try.ntmps42
    go_wp2_with fail
    go_ret
    exact ⟨ret_int hf.out.symm, rfl⟩
  have d2 : decide (40000 < a) = false := decide_eq_false (by omega)
  by_cases h3 : 0 ≤ r
  case neg =>
    have hf : Hid (res = 0) := by unfold Hid; rw [hs.out]; simp [mixedOk, h3]
    have d3 : decide (r < 0) = true := decide_eq_true (by omega)
    go_enter Try.func42, Try.ntmps42
    go_wp2_with fail
    go_ret
    exact ⟨ret_int hf.out.symm, rfl⟩
  have d3 : decide (r < 0) = false := decide_eq_false (by omega)
  by_cases h4 : r ≤ 40000
  case neg =>
    have hf : Hid (res = 0) := by unfold Hid; rw [hs.out]; simp [mixedOk, h4]
    have d4 : decide (40000 < r) = true := decide_eq_true (by omega)
    go_enter Try.func42, Try.ntmps42
    go_wp2_with fail
    go_ret
    exact ⟨ret_int hf.out.symm, rfl⟩
  have d4 : decide (40000 < r) = false := decide_eq_false (by omega)
  by_cases h5 : 0 ≤ l
  case neg =>
    have hf : Hid (res = 0) := by unfold Hid; rw [hs.out]; simp [mixedOk, h5]
    have d5 : decide (l < 0) = true := decide_eq_true (by omega)
    go_enter Try.func42, Try.ntmps42
    go_wp2_with fail
    go_ret
    exact ⟨ret_int hf.out.symm, rfl⟩
  have d5 : decide (l < 0) = false := decide_eq_false (by omega)
  by_cases h6 : l ≤ 1000
  case neg =>
    have hf : Hid (res = 0) := by unfold Hid; rw [hs.out]; simp [mixedOk, h6]
    have d6 : decide (1000 < l) = true := decide_eq_true (by omega)
    go_enter Try.func42, Try.ntmps42
    go_wp2_with fail
    go_ret
    exact ⟨ret_int hf.out.symm, rfl⟩
  have d6 : decide (1000 < l) = false := decide_eq_false (by omega)
  have hf : Hid (res = upDiv (1000 * a + (r - a) * l) 1000) := by unfold Hid; rw [hs.out]; simp [mixedOk, h1, h2, h3, h4, h5, h6]
  have m0 : 0 ≤ a * (1000 - l) ∧ 0 ≤ r * l := ⟨Int.mul_nonneg (by omega) (by omega), Int.mul_nonneg (by omega) (by omega)⟩
  have m1 : -40000 * 1000 ≤ (r - a) * l ∧ (r - a) * l ≤ 40000 * 1000 := by
    have a1 := Int.mul_le_mul_of_nonneg_left h6 (show 0 ≤ r by omega)
    have a2 := Int.mul_le_mul_of_nonneg_left h6 (show 0 ≤ a by omega)
    have a3 := Int.mul_nonneg h1 h5
    have a4 := Int.mul_nonneg h3 h5
    rw [Int.sub_mul]
    omega
  have m2 : 0 ≤ 1000 * a + (r - a) * l := by
    have e : a * (1000 - l) + r * l = 1000 * a + (r - a) * l := by rw [Int.mul_sub, Int.sub_mul]; omega
    omega
  obtain ⟨m10, m11⟩ := m1
  clear m0
  have hw1 : IntKind.i64.wrap (1000 * a) = 1000 * a := IntWalk.i64_in _ (by omega)
  have hw2 : IntKind.i64.wrap (r - a) = r - a := IntWalk.i64_in _ (by omega)
  have hw3 : IntKind.i64.wrap ((r - a) * l) = (r - a) * l := IntWalk.i64_in _ (by omega)
  have hw4 : IntKind.i64.wrap (1000 * a + (r - a) * l) = 1000 * a + (r - a) * l := IntWalk.i64_in _ (by omega)
  have HU := Lib.hid (fun w => ref03_up (1000 * a + (r - a) * l) 1000 w m2 (by omega) (by omega) (by omega))
  go_enter Try.func42, Try.ntmps42
  go_wp2_with (go_at_call 84; (try simp only [hw1, hw2, hw3, hw4]); refine (HU.out _).mono ?_; rintro e w' ⟨rfl, rfl⟩)
  go_ret
  exact ⟨ret_int hf.out.symm, rfl⟩

set_option maxHeartbeats 4000000 in
theorem ref03_Load (s : Seg) (feed flow slip : Int) (w : World) :
    Calls Try.prog 40 #[segV s, .int .i64 feed, .int .i64 flow, .int .i64 slip] w fun e w' => e = .returned (.tuple #[.int .i64 (Mpl.load s feed flow slip).1, .bool (Mpl.load s feed flow slip).2]) ∧ Below w.heap.size w w' := by
  have HSG := Lib.hid (fun w => ref03_Seg s w)
  have hs := Lib.hid (load_ok s feed flow slip)
  have b0 : Box (w.alloc (.cells #[.int .i64 s.Long, .int .i64 s.Rise, .int .i64 s.Area, .int .i64 s.Gap] 29)) w.heap.size 29 #[.int .i64 s.Long, .int .i64 s.Rise, .int .i64 s.Area, .int .i64 s.Gap] := Box.new _ _ _ rfl
  have hw0 : Below w.heap.size w (w.alloc (.cells #[.int .i64 s.Long, .int .i64 s.Rise, .int .i64 s.Area, .int .i64 s.Gap] 29)) := (by repeat (first | exact Below.refl _ _ | assumption | refine Below.setCell ?_ (by first | (simp; done) | (simp; omega)) _ | refine belowDrewN ?_ _ | refine Below.drew ?_ | refine Below.alloc ?_ (by first | (simp; done) | (simp; omega)) _))
  have HB := Lib.hid b0
  have HW := Lib.hid hw0
  clear b0 hw0
  unfold segV at *
  generalize Mpl.load s feed flow slip = res at *
  cases h0 : goodSeg s
  · have hf : Hid (res = (0, false)) := by unfold Hid; rw [hs.out]; simp [loadOk, h0]
    rw [h0] at HSG
    go_enter Try.func40, Try.ntmps40
    go_wp2_with fail
    refine (HSG.out _).mono ?_
    rintro e w1 ⟨rfl, hb⟩
    go_wp2_with fail
    go_ret2
    exact ⟨by rw [hf.out]; rfl, HW.out.trans (hb.mono HW.out.size)⟩
  rw [h0] at HSG
  by_cases h1 : 0 ≤ feed
  case neg =>
    have hf : Hid (res = (0, false)) := by unfold Hid; rw [hs.out]; simp [loadOk, h1]
    have d1 : decide (feed < 0) = true := decide_eq_true (by omega)
    go_enter Try.func40, Try.ntmps40
    go_wp2_with (go_at_call 83; refine (HSG.out _).mono ?_; rintro e w1 ⟨rfl, hb⟩)
    go_ret2
    exact ⟨by rw [hf.out]; rfl, HW.out.trans (hb.mono HW.out.size)⟩
  have d1 : decide (feed < 0) = false := decide_eq_false (by omega)
  by_cases h2 : feed ≤ 1000000
  case neg =>
    have hf : Hid (res = (0, false)) := by unfold Hid; rw [hs.out]; simp [loadOk, h2]
    have d2 : decide (1000000 < feed) = true := decide_eq_true (by omega)
    go_enter Try.func40, Try.ntmps40
    go_wp2_with (go_at_call 83; refine (HSG.out _).mono ?_; rintro e w1 ⟨rfl, hb⟩)
    go_ret2
    exact ⟨by rw [hf.out]; rfl, HW.out.trans (hb.mono HW.out.size)⟩
  have d2 : decide (1000000 < feed) = false := decide_eq_false (by omega)
  by_cases h3 : 0 ≤ flow
  case neg =>
    have hf : Hid (res = (0, false)) := by unfold Hid; rw [hs.out]; simp [loadOk, h3]
    have d3 : decide (flow < 0) = true := decide_eq_true (by omega)
    go_enter Try.func40, Try.ntmps40
    go_wp2_with (go_at_call 83; refine (HSG.out _).mono ?_; rintro e w1 ⟨rfl, hb⟩)
    go_ret2
    exact ⟨by rw [hf.out]; rfl, HW.out.trans (hb.mono HW.out.size)⟩
  have d3 : decide (flow < 0) = false := decide_eq_false (by omega)
  by_cases h4 : flow ≤ 1000000
  case neg =>
    have hf : Hid (res = (0, false)) := by unfold Hid; rw [hs.out]; simp [loadOk, h4]
    have d4 : decide (1000000 < flow) = true := decide_eq_true (by omega)
    go_enter Try.func40, Try.ntmps40
    go_wp2_with (go_at_call 83; refine (HSG.out _).mono ?_; rintro e w1 ⟨rfl, hb⟩)
    go_ret2
    exact ⟨by rw [hf.out]; rfl, HW.out.trans (hb.mono HW.out.size)⟩
  have d4 : decide (1000000 < flow) = false := decide_eq_false (by omega)
  by_cases h5 : 0 ≤ slip
  case neg =>
    have hf : Hid (res = (0, false)) := by unfold Hid; rw [hs.out]; simp [loadOk, h5]
    have d5 : decide (slip < 0) = true := decide_eq_true (by omega)
    go_enter Try.func40, Try.ntmps40
    go_wp2_with (go_at_call 83; refine (HSG.out _).mono ?_; rintro e w1 ⟨rfl, hb⟩)
    go_ret2
    exact ⟨by rw [hf.out]; rfl, HW.out.trans (hb.mono HW.out.size)⟩
  have d5 : decide (slip < 0) = false := decide_eq_false (by omega)
  by_cases h6 : slip ≤ 1000
  case neg =>
    have hf : Hid (res = (0, false)) := by unfold Hid; rw [hs.out]; simp [loadOk, h6]
    have d6 : decide (1000 < slip) = true := decide_eq_true (by omega)
    go_enter Try.func40, Try.ntmps40
    go_wp2_with (go_at_call 83; refine (HSG.out _).mono ?_; rintro e w1 ⟨rfl, hb⟩)
    go_ret2
    exact ⟨by rw [hf.out]; rfl, HW.out.trans (hb.mono HW.out.size)⟩
  have d6 : decide (1000 < slip) = false := decide_eq_false (by omega)
  have hd : Hid (res = if flow - slip * s.Area ≤ 0 then (0, false) else (min 1000 (upDiv (1000 * feed) (flow - slip * s.Area)), true)) := by
    unfold Hid; rw [hs.out]; simp [loadOk, h0, h1, h2, h3, h4, h5, h6]
  have hg := ((goodSeg_iff s).1 h0).1
  have a0 := hg.area0
  have a1 := hg.area1
  have m1 : 0 ≤ slip * s.Area ∧ slip * s.Area ≤ 1000 * 5000 := ⟨Int.mul_nonneg (by omega) (by omega), Int.mul_le_mul h6 a1 (by omega) (by omega)⟩
  obtain ⟨m10, m11⟩ := m1
  have hw1 : IntKind.i64.wrap (slip * s.Area) = slip * s.Area := IntWalk.i64_in _ (by omega)
  have hw2 : IntKind.i64.wrap (flow - slip * s.Area) = flow - slip * s.Area := IntWalk.i64_in _ (by omega)
  have hw3 : IntKind.i64.wrap (1000 * feed) = 1000 * feed := IntWalk.i64_in _ (by omega)
  clear hg h0 a0 a1 hs
  by_cases hq : flow ≤ slip * s.Area
  · have hf : Hid (res = (0, false)) := by unfold Hid; rw [hd.out, if_pos (by omega)]
    have d7 : decide (flow ≤ slip * s.Area) = true := decide_eq_true hq
    clear hd
    go_enter Try.func40, Try.ntmps40
    go_wp2_with (go_at_call 83; refine (HSG.out _).mono ?_; rintro e w1 ⟨rfl, hb⟩; have q2 := seg_box3 (HB.out.under hb))
    go_ret2
    exact ⟨by rw [hf.out]; rfl, HW.out.trans (hb.mono HW.out.size)⟩
  · have hf : Hid (res = (min 1000 (upDiv (1000 * feed) (flow - slip * s.Area)), true)) := by unfold Hid; rw [hd.out, if_neg (by omega)]
    have d7 : decide (flow ≤ slip * s.Area) = false := decide_eq_false hq
    have HU := Lib.hid (fun w => ref03_up (1000 * feed) (flow - slip * s.Area) w (by omega) (by omega) (by omega) (by omega))
    clear hd
    go_enter Try.func40, Try.ntmps40
    go_wp2_with (first | (go_at_call 83; refine (HSG.out _).mono ?_; rintro e w1 ⟨rfl, hb⟩; have q2 := seg_box3 (HB.out.under hb)) | (go_at_call 84; (try simp only [hw1, hw2, hw3]); refine (HU.out _).mono ?_; rintro e w' ⟨rfl, rfl⟩))
    all_goals
      go_ret2
      exact ⟨ret_ib (by rw [hf.out]; simp only; omega) (by rw [hf.out]), HW.out.trans (hb.mono HW.out.size)⟩

end Go.Proofs.Ytgcfplkfclapiaa

/- Walks of the document's flows (printed by gen_refflows.py). -/
namespace Go.Proofs.Ytgcfplkfclapiaa
open Go.RowKit Go.Shelf Go.Deep Mpl

def keyA (i : Nat) (d1 d2 d3 d4 d5 d6 : Bool) : Bool := (i == 7 && !d1) || (i == 8 && d1 && !d2) || (i == 19 && !d3) || (i == 20 && d3 && !d4) || (i == 21 && d2 && d4 && !d5) || (i == 22 && d5 && !d6)
def keyB (i : Nat) (d1 d2 d3 d4 d5 d6 : Bool) : Bool := (i == 5 && !d1) || (i == 6 && d1 && !d2) || (i == 15 && !d3) || (i == 16 && d3 && !d4) || (i == 17 && d2 && d4 && !d5) || (i == 18 && d5 && !d6)
/-- what the heavy operations of a sum of two products have left -/
structure Five (w W : World) (sc mc l1 l2 : Array Value) (n1 n2 : Nat) (N1 N2 : Int) (L1 L2 L3 : Nat) (d1 d2 d3 d4 d5 : Bool) (v1 v2 v3 v4 v5 : Value) : Prop where
  s : Box W w.heap.size 29 sc
  m : Box W (w.heap.size + 1) 47 mc
  lo : Below w.heap.size w W
  f1 : d1 = true → d2 = false → ∃ p, v1 = .slice (some ⟨p, 0, none⟩) n1 n1 ∧ Box W p 2 l1
  f2 : d2 = true → BigV W v2 N1 L1
  f3 : d3 = true → d4 = false → ∃ p, v3 = .slice (some ⟨p, 0, none⟩) n2 n2 ∧ Box W p 2 l2
  f4 : d4 = true → BigV W v4 N2 L2
  f5 : d5 = true → BigV W v5 (N1 + N2) L3
section
variable {w W W' : World} {sc mc l1 l2 : Array Value} {n1 n2 : Nat} {N1 N2 : Int} {L1 L2 L3 : Nat} {d1 d2 d3 d4 d5 : Bool} {v1 v2 v3 v4 v5 : Value}
theorem Five.under (h : Five w W sc mc l1 l2 n1 n2 N1 N2 L1 L2 L3 d1 d2 d3 d4 d5 v1 v2 v3 v4 v5) (hb : Below W.heap.size W W') : Five w W' sc mc l1 l2 n1 n2 N1 N2 L1 L2 L3 d1 d2 d3 d4 d5 v1 v2 v3 v4 v5 :=
  ⟨h.s.under hb, h.m.under hb, h.lo.trans (hb.mono h.lo.size), fun a b => by obtain ⟨p, x, y⟩ := h.f1 a b; exact ⟨p, x, y.under hb⟩, fun a => (h.f2 a).under hb, fun a b => by obtain ⟨p, x, y⟩ := h.f3 a b; exact ⟨p, x, y.under hb⟩, fun a => (h.f4 a).under hb, fun a => (h.f5 a).under hb⟩
theorem Five.bs1 (h : Five w W sc mc l1 l2 n1 n2 N1 N2 L1 L2 L3 d1 d2 d3 d4 d5 v1 v2 v3 v4 v5) : Five w (W.alloc (.cells l1 2)) sc mc l1 l2 n1 n2 N1 N2 L1 L2 L3 true d2 d3 d4 d5 (.slice (some ⟨W.heap.size, 0, none⟩) n1 n1) v2 v3 v4 v5 := by
  have k := h.under ((Below.refl _ W).alloc (Nat.le_refl _) (.cells l1 2))
  exact ⟨k.s, k.m, k.lo, fun _ _ => ⟨_, rfl, Box.new _ _ _ rfl⟩, k.f2, k.f3, k.f4, k.f5⟩
theorem Five.bs2 (h : Five w W sc mc l1 l2 n1 n2 N1 N2 L1 L2 L3 d1 d2 d3 d4 d5 v1 v2 v3 v4 v5) : Five w (W.alloc (.cells l2 2)) sc mc l1 l2 n1 n2 N1 N2 L1 L2 L3 d1 d2 true d4 d5 v1 v2 (.slice (some ⟨W.heap.size, 0, none⟩) n2 n2) v4 v5 := by
  have k := h.under ((Below.refl _ W).alloc (Nat.le_refl _) (.cells l2 2))
  exact ⟨k.s, k.m, k.lo, k.f1, k.f2, fun _ _ => ⟨_, rfl, Box.new _ _ _ rfl⟩, k.f4, k.f5⟩
theorem Five.c1 (h : Five w W sc mc l1 l2 n1 n2 N1 N2 L1 L2 L3 d1 d2 d3 d4 d5 v1 v2 v3 v4 v5) {v : Value} (hv : BigV W v N1 L1) : Five w W sc mc l1 l2 n1 n2 N1 N2 L1 L2 L3 d1 true d3 d4 d5 v1 v v3 v4 v5 := ⟨h.s, h.m, h.lo, fun _ e => (by cases e), fun _ => hv, h.f3, h.f4, h.f5⟩
theorem Five.c2 (h : Five w W sc mc l1 l2 n1 n2 N1 N2 L1 L2 L3 d1 d2 d3 d4 d5 v1 v2 v3 v4 v5) {v : Value} (hv : BigV W v N2 L2) : Five w W sc mc l1 l2 n1 n2 N1 N2 L1 L2 L3 d1 d2 d3 true d5 v1 v2 v3 v v5 := ⟨h.s, h.m, h.lo, h.f1, h.f2, fun _ e => (by cases e), fun _ => hv, h.f5⟩
theorem Five.c3 (h : Five w W sc mc l1 l2 n1 n2 N1 N2 L1 L2 L3 d1 d2 d3 d4 d5 v1 v2 v3 v4 v5) {v : Value} (hv : BigV W v (N1 + N2) L3) : Five w W sc mc l1 l2 n1 n2 N1 N2 L1 L2 L3 d1 d2 d3 d4 true v1 v2 v3 v4 v := ⟨h.s, h.m, h.lo, h.f1, h.f2, h.f3, h.f4, fun _ => hv⟩
end
def ProdC (l : Array Value) (n : Nat) (N : Int) (L : Nat) : Prop := ∀ W p, Box W p 2 l → Calls Try.prog 102 #[.slice (some ⟨p, 0, none⟩) n n] W fun e W' => (∃ v, e = .returned v ∧ BigV W' v N L) ∧ Below W.heap.size W W'
def AddC (N1 N2 : Int) (L1 L2 L3 : Nat) : Prop := ∀ W v1 v2, BigV W v1 N1 L1 → BigV W v2 N2 L2 → Calls Try.prog 103 #[v1, v2] W fun e W' => (∃ v, e = .returned v ∧ BigV W' v (N1 + N2) L3) ∧ Below W.heap.size W W'

set_option maxHeartbeats 8000000 in
set_option maxRecDepth 100000 in
theorem refflows_walk (lo ri ar ga y vi g flow t : Int) (w : World) (A B C D : Int) (LA LB LC LD LX LY : Nat) (r : Bool) (ht : IntKind.i64.wrap (g * ga) = t) (hf : flow ≠ 0) (hty : y < t)
    (hA : ProdC (longC [2, t, t, t, ga, ar]) 6 A LA) (hB : ProdC (longC [y, y, y, ga, ar]) 5 B LB) (hC : ProdC (longC [3, y, t, t, ga, ar]) 6 C LC) (hD : ProdC (longC [flow, vi, t, t]) 4 D LD) (hAB : AddC A B LA LB LX) (hDC : AddC D C LD LC LY)
    (hLE : ∀ W v1 v2, BigV W v1 (A + B) LX → BigV W v2 (D + C) LY → Calls Try.prog 104 #[v1, v2] W fun e W' => e = .returned (.bool r) ∧ Below W.heap.size W W') :
    Calls Try.prog 88 #[.agg #[.int .i64 lo, .int .i64 ri, .int .i64 ar, .int .i64 ga], .agg #[.int .i64 y, .int .i64 vi], .int .i64 g, .int .i64 flow] w fun e w' => e = .returned (.bool r) ∧ Below w.heap.size w w' := by
  have HA := Lib.hid hA
  have HB := Lib.hid hB
  have HC := Lib.hid hC
  have HD := Lib.hid hD
  have HAB := Lib.hid hAB
  have HDC := Lib.hid hDC
  have HLE := Lib.hid hLE
  clear hA hB hC hD hAB hDC hLE
  obtain ⟨w0, hw0⟩ : ∃ w0, (w.alloc (.cells #[.int .i64 lo, .int .i64 ri, .int .i64 ar, .int .i64 ga] 29)).alloc (.cells #[.int .i64 y, .int .i64 vi] 47) = w0 := ⟨_, rfl⟩
  have bs : Box w0 w.heap.size 29 #[.int .i64 lo, .int .i64 ri, .int .i64 ar, .int .i64 ga] := by rw [← hw0]; exact (Box.new w _ _ rfl).alloc _
  have bm : Box w0 (w.heap.size + 1) 47 #[.int .i64 y, .int .i64 vi] := by rw [← hw0]; exact Box.new _ _ _ (by simp)
  have hB0 : Below w.heap.size w w0 := by rw [← hw0]; exact (by repeat (first | exact Below.refl _ _ | assumption | refine Below.setCell ?_ (by first | (simp; done) | (simp; omega)) _ | refine belowDrewN ?_ _ | refine Below.drew ?_ | refine Below.alloc ?_ (by first | (simp; done) | (simp; omega)) _))
  have HW0 := Lib.hid hw0
  have BS := Lib.hid bs
  have BM := Lib.hid bm
  have HB0 := Lib.hid hB0
  obtain ⟨q2, q3⟩ := seg_box1 bs
  obtain ⟨q4, q5⟩ := mud_box bm
  clear hw0 bs bm hB0
  have hf0 : (flow == 0) = false := by simpa using hf
  have hf1 : decide (t ≤ y) = false := decide_eq_false (by omega)
  clear hf hty
  go_enter Try.func88, Try.ntmps88
  go_wp2_with fail
  rw [HW0.out]
  go_upto_region 6 with fail
  clear q2 q3 q4 q5 HW0
  have HS := Lib.hid (fun W (h0 : Box W w.heap.size 29 #[.int .i64 lo, .int .i64 ri, .int .i64 ar, .int .i64 ga]) (h1 : Box W (w.heap.size + 1) 47 #[.int .i64 y, .int .i64 vi]) => (⟨(seg_box1 h0).1, (seg_box1 h0).2, mud_box h1⟩ : W.cell? ⟨w.heap.size, 2, none⟩ = some (.int .i64 ar) ∧ W.cell? ⟨w.heap.size, 3, none⟩ = some (.int .i64 ga) ∧ W.cell? ⟨w.heap.size + 1, 0, none⟩ = some (.int .i64 y) ∧ W.cell? ⟨w.heap.size + 1, 1, none⟩ = some (.int .i64 vi)))
  have S0 := BS.out.drew
  have M0 := BM.out.drew
  have L0 : Below w.heap.size w w0.drew := HB0.out.trans (Below.refl _ w0).drew
  clear BS BM HB0
  go_cut [10] (fun s10 wx => Hid (BigV wx s10 (A + B) LX) ∧ Hid (Box wx w.heap.size 29 #[.int .i64 lo, .int .i64 ri, .int .i64 ar, .int .i64 ga]) ∧ Hid (Box wx (w.heap.size + 1) 47 #[.int .i64 y, .int .i64 vi]) ∧ Hid (Below w.heap.size w wx))
  case first =>
    refine AnyBut.begin (S := (fun w' : World => w'.cell? ⟨w.heap.size, 2, none⟩ = some (.int .i64 ar) ∧ w'.cell? ⟨w.heap.size, 3, none⟩ = some (.int .i64 ga) ∧ w'.cell? ⟨w.heap.size + 1, 0, none⟩ = some (.int .i64 y) ∧ w'.cell? ⟨w.heap.size + 1, 1, none⟩ = some (.int .i64 vi))) (z := 100) mixed ?_
    refine AnyBut.take (i := 0) (v := .int .i64 t) rfl (by decide +kernel) (by decide +kernel) (by decide +kernel) (by decide +kernel) (fun _ _ _ h => h) (HS.out _ S0 M0) (Or.inl ⟨by simp [Region.wanted], fun w' hw' => by (obtain ⟨s0, s1, s2, s3⟩ := hw'; go_simp)⟩) ?_
    refine AnyBut.take (i := 1) (v := .int .i64 t) rfl (by decide +kernel) (by decide +kernel) (by decide +kernel) (by decide +kernel) (fun _ _ _ h => h) (HS.out _ S0 M0) (Or.inl ⟨by simp [Region.wanted], fun w' hw' => by (obtain ⟨s0, s1, s2, s3⟩ := hw'; go_simp)⟩) ?_
    refine AnyBut.take (i := 2) (v := .int .i64 t) rfl (by decide +kernel) (by decide +kernel) (by decide +kernel) (by decide +kernel) (fun _ _ _ h => h) (HS.out _ S0 M0) (Or.inl ⟨by simp [Region.wanted], fun w' hw' => by (obtain ⟨s0, s1, s2, s3⟩ := hw'; go_simp)⟩) ?_
    refine AnyBut.take (i := 3) (v := .pointer (some ⟨w.heap.size, 3, none⟩)) rfl (by decide +kernel) (by decide +kernel) (by decide +kernel) (by decide +kernel) (fun _ _ _ h => h) (HS.out _ S0 M0) (Or.inl ⟨by simp [Region.wanted], fun w' hw' => by (obtain ⟨s0, s1, s2, s3⟩ := hw'; go_simp)⟩) ?_
    refine AnyBut.take (i := 4) (v := .int .i64 ga) rfl (by decide +kernel) (by decide +kernel) (by decide +kernel) (by decide +kernel) (fun _ _ _ h => h) (HS.out _ S0 M0) (Or.inl ⟨by simp [Region.wanted], fun w' hw' => by (obtain ⟨s0, s1, s2, s3⟩ := hw'; go_simp)⟩) ?_
    refine AnyBut.take (i := 5) (v := .pointer (some ⟨w.heap.size, 2, none⟩)) rfl (by decide +kernel) (by decide +kernel) (by decide +kernel) (by decide +kernel) (fun _ _ _ h => h) (HS.out _ S0 M0) (Or.inl ⟨by simp [Region.wanted], fun w' hw' => by (obtain ⟨s0, s1, s2, s3⟩ := hw'; go_simp)⟩) ?_
    refine AnyBut.take (i := 6) (v := .int .i64 ar) rfl (by decide +kernel) (by decide +kernel) (by decide +kernel) (by decide +kernel) (fun _ _ _ h => h) (HS.out _ S0 M0) (Or.inl ⟨by simp [Region.wanted], fun w' hw' => by (obtain ⟨s0, s1, s2, s3⟩ := hw'; go_simp)⟩) ?_
    refine AnyBut.take (i := 9) (v := .pointer (some ⟨w.heap.size + 1, 0, none⟩)) rfl (by decide +kernel) (by decide +kernel) (by decide +kernel) (by decide +kernel) (fun _ _ _ h => h) (HS.out _ S0 M0) (Or.inl ⟨by simp [Region.wanted], fun w' hw' => by (obtain ⟨s0, s1, s2, s3⟩ := hw'; go_simp)⟩) ?_
    refine AnyBut.take (i := 10) (v := .int .i64 y) rfl (by decide +kernel) (by decide +kernel) (by decide +kernel) (by decide +kernel) (fun _ _ _ h => h) (HS.out _ S0 M0) (Or.inl ⟨by simp [Region.wanted], fun w' hw' => by (obtain ⟨s0, s1, s2, s3⟩ := hw'; go_simp)⟩) ?_
    refine AnyBut.take (i := 11) (v := .pointer (some ⟨w.heap.size + 1, 0, none⟩)) rfl (by decide +kernel) (by decide +kernel) (by decide +kernel) (by decide +kernel) (fun _ _ _ h => h) (HS.out _ S0 M0) (Or.inl ⟨by simp [Region.wanted], fun w' hw' => by (obtain ⟨s0, s1, s2, s3⟩ := hw'; go_simp)⟩) ?_
    refine AnyBut.take (i := 12) (v := .int .i64 y) rfl (by decide +kernel) (by decide +kernel) (by decide +kernel) (by decide +kernel) (fun _ _ _ h => h) (HS.out _ S0 M0) (Or.inl ⟨by simp [Region.wanted], fun w' hw' => by (obtain ⟨s0, s1, s2, s3⟩ := hw'; go_simp)⟩) ?_
    refine AnyBut.take (i := 13) (v := .pointer (some ⟨w.heap.size + 1, 0, none⟩)) rfl (by decide +kernel) (by decide +kernel) (by decide +kernel) (by decide +kernel) (fun _ _ _ h => h) (HS.out _ S0 M0) (Or.inl ⟨by simp [Region.wanted], fun w' hw' => by (obtain ⟨s0, s1, s2, s3⟩ := hw'; go_simp)⟩) ?_
    refine AnyBut.take (i := 14) (v := .int .i64 y) rfl (by decide +kernel) (by decide +kernel) (by decide +kernel) (by decide +kernel) (fun _ _ _ h => h) (HS.out _ S0 M0) (Or.inl ⟨by simp [Region.wanted], fun w' hw' => by (obtain ⟨s0, s1, s2, s3⟩ := hw'; go_simp)⟩) ?_
    refine AnyBut.take (i := 15) (v := .pointer (some ⟨w.heap.size, 3, none⟩)) rfl (by decide +kernel) (by decide +kernel) (by decide +kernel) (by decide +kernel) (fun _ _ _ h => h) (HS.out _ S0 M0) (Or.inl ⟨by simp [Region.wanted], fun w' hw' => by (obtain ⟨s0, s1, s2, s3⟩ := hw'; go_simp)⟩) ?_
    refine AnyBut.take (i := 16) (v := .int .i64 ga) rfl (by decide +kernel) (by decide +kernel) (by decide +kernel) (by decide +kernel) (fun _ _ _ h => h) (HS.out _ S0 M0) (Or.inl ⟨by simp [Region.wanted], fun w' hw' => by (obtain ⟨s0, s1, s2, s3⟩ := hw'; go_simp)⟩) ?_
    refine AnyBut.take (i := 17) (v := .pointer (some ⟨w.heap.size, 2, none⟩)) rfl (by decide +kernel) (by decide +kernel) (by decide +kernel) (by decide +kernel) (fun _ _ _ h => h) (HS.out _ S0 M0) (Or.inl ⟨by simp [Region.wanted], fun w' hw' => by (obtain ⟨s0, s1, s2, s3⟩ := hw'; go_simp)⟩) ?_
    refine AnyBut.take (i := 18) (v := .int .i64 ar) rfl (by decide +kernel) (by decide +kernel) (by decide +kernel) (by decide +kernel) (fun _ _ _ h => h) (HS.out _ S0 M0) (Or.inl ⟨by simp [Region.wanted], fun w' hw' => by (obtain ⟨s0, s1, s2, s3⟩ := hw'; go_simp)⟩) ?_
    refine at_act fun a' ha' => ?_
    simp [Act.put] at ha'
    subst ha'
    refine any_from (F := fun b0 a0 b a W => ∃ (d1 d2 d3 d4 d5 d6 : Bool) (v1 v2 v3 v4 v5 v6 : Value), b = ((((((b0.setIfInBounds 7 d1).setIfInBounds 8 d2).setIfInBounds 19 d3).setIfInBounds 20 d4).setIfInBounds 21 d5).setIfInBounds 22 d6) ∧ a = { tmps := ((((((a0.tmps.setIfInBounds 29 v1).setIfInBounds 30 v2).setIfInBounds 41 v3).setIfInBounds 42 v4).setIfInBounds 43 v5).setIfInBounds 10 v6), defers := a0.defers }
      ∧ Five w W #[.int .i64 lo, .int .i64 ri, .int .i64 ar, .int .i64 ga] #[.int .i64 y, .int .i64 vi] (longC [2, t, t, t, ga, ar]) (longC [y, y, y, ga, ar]) 6 5 A B LA LB LX d1 d2 d3 d4 d5 v1 v2 v3 v4 v5 ∧ (d6 = true → BigV W v6 (A + B) LX)) (by decide +kernel) ?h0 ?hS ?hs ?hd
    case h0 => exact ⟨false, false, false, false, false, false, undef, undef, undef, undef, undef, undef, by decide +kernel, by simp, ⟨S0, M0, L0, fun e => (by cases e), fun e => (by cases e), fun e => (by cases e), fun e => (by cases e), fun e => (by cases e)⟩, fun e => (by cases e)⟩
    case hS =>
      rintro b a W ⟨d1, d2, d3, d4, d5, d6, v1, v2, v3, v4, v5, v6, _, _, h, hg⟩
      exact HS.out _ h.s h.m
    case hs =>
      rintro b a W ⟨d1, d2, d3, d4, d5, d6, v1, v2, v3, v4, v5, v6, rfl, rfl, h, hg⟩ i hi
      have kb : keyA i d1 d2 d3 d4 d5 d6 = true := by
        clear h hg
        revert i
        revert d1 d2 d3 d4 d5 d6
        decide +kernel
      have key : (i = 7 ∧ d1 = false) ∨ (i = 8 ∧ d1 = true ∧ d2 = false) ∨ (i = 19 ∧ d3 = false) ∨ (i = 20 ∧ d3 = true ∧ d4 = false) ∨ (i = 21 ∧ d2 = true ∧ d4 = true ∧ d5 = false) ∨ (i = 22 ∧ d5 = true ∧ d6 = false) := by simpa [keyA, and_assoc, or_assoc] using kb
      clear kb
      clear hi
      rcases key with ⟨rfl, hk⟩ | ⟨rfl, hk⟩ | ⟨rfl, hk⟩ | ⟨rfl, hk⟩ | ⟨rfl, hk⟩ | ⟨rfl, hk⟩
      · refine ⟨_, rfl, rfl, fun K hK => ?_⟩
        go_simp
        refine hK _ _ ⟨true, d2, d3, d4, d5, d6, .slice (some ⟨W.heap.size, 0, none⟩) 6 6, v2, v3, v4, v5, v6, (by clear hK K h hg; revert d1 d2 d3 d4 d5 d6; decide +kernel), by simp, h.bs1, fun e => (hg e).under ((Below.refl _ W).alloc (Nat.le_refl _) (.cells (longC [2, t, t, t, ga, ar]) 2))⟩
      · obtain ⟨p, rfl, hp⟩ := h.f1 hk.1 hk.2
        refine ⟨_, rfl, rfl, fun K hK => ?_⟩
        go_simp
        refine (HA.out _ _ hp).mono ?_
        rintro e W' ⟨⟨vv, rfl, hvv⟩, hb⟩
        refine hK _ _ ⟨d1, true, d3, d4, d5, d6, .slice (some ⟨p, 0, none⟩) 6 6, vv, v3, v4, v5, v6, (by clear hK K h hg; revert d1 d2 d3 d4 d5 d6; decide +kernel), by simp, (h.under hb).c1 hvv, fun e => (hg e).under hb⟩
      · refine ⟨_, rfl, rfl, fun K hK => ?_⟩
        go_simp
        refine hK _ _ ⟨d1, d2, true, d4, d5, d6, v1, v2, .slice (some ⟨W.heap.size, 0, none⟩) 5 5, v4, v5, v6, (by clear hK K h hg; revert d1 d2 d3 d4 d5 d6; decide +kernel), by simp, h.bs2, fun e => (hg e).under ((Below.refl _ W).alloc (Nat.le_refl _) (.cells (longC [y, y, y, ga, ar]) 2))⟩
      · obtain ⟨p, rfl, hp⟩ := h.f3 hk.1 hk.2
        refine ⟨_, rfl, rfl, fun K hK => ?_⟩
        go_simp
        refine (HB.out _ _ hp).mono ?_
        rintro e W' ⟨⟨vv, rfl, hvv⟩, hb⟩
        refine hK _ _ ⟨d1, d2, d3, true, d5, d6, v1, v2, .slice (some ⟨p, 0, none⟩) 5 5, vv, v5, v6, (by clear hK K h hg; revert d1 d2 d3 d4 d5 d6; decide +kernel), by simp, (h.under hb).c2 hvv, fun e => (hg e).under hb⟩
      · have e1 := h.f2 hk.1
        have e2 := h.f4 hk.2.1
        refine ⟨_, rfl, rfl, fun K hK => ?_⟩
        go_simp
        refine (HAB.out _ _ _ e1 e2).mono ?_
        rintro e W' ⟨⟨vv, rfl, hvv⟩, hb⟩
        refine hK _ _ ⟨d1, d2, d3, d4, true, d6, v1, v2, v3, v4, vv, v6, (by clear hK K e1 e2 h hg; revert d1 d2 d3 d4 d5 d6; decide +kernel), by simp, (h.under hb).c3 hvv, fun e => (hg e).under hb⟩
      · have e1 := h.f5 hk.1
        refine ⟨_, rfl, rfl, fun K hK => ?_⟩
        go_simp
        refine hK _ _ ⟨d1, d2, d3, d4, d5, true, v1, v2, v3, v4, v5, v5, (by clear hK K e1 h hg; revert d1 d2 d3 d4 d5 d6; decide +kernel), by simp, h, fun _ => e1⟩
    case hd =>
      rintro b a W ⟨d1, d2, d3, d4, d5, d6, v1, v2, v3, v4, v5, v6, rfl, rfl, h, hg⟩ hr
      have key : d6 = true := by
        clear h hg
        revert d1 d2 d3 d4 d5 d6
        decide +kernel
      have hv6 := hg key
      clear hr key hg
      simp
      go_wp2_with fail
      go_meet
      exact ⟨hv6, h.s, h.m, h.lo⟩
  case rest =>
    obtain ⟨HX, BS, BM, LL⟩ := hcut
    clear S0 M0 L0
    have S0 := BS.out.drew
    have M0 := BM.out.drew
    have X0 := HX.out.under (Below.refl _ wc).drew
    have L0 := LL.out.trans (Below.refl _ wc).drew
    clear BS BM HX LL
    go_upto_region 7 with fail
    refine AnyBut.begin (S := (fun w' : World => w'.cell? ⟨w.heap.size, 2, none⟩ = some (.int .i64 ar) ∧ w'.cell? ⟨w.heap.size, 3, none⟩ = some (.int .i64 ga) ∧ w'.cell? ⟨w.heap.size + 1, 0, none⟩ = some (.int .i64 y) ∧ w'.cell? ⟨w.heap.size + 1, 1, none⟩ = some (.int .i64 vi))) (z := 100) mixed ?_
    refine AnyBut.take (i := 0) (v := .int .i64 flow) rfl (by decide +kernel) (by decide +kernel) (by decide +kernel) (by decide +kernel) (fun _ _ _ h => h) (HS.out _ S0 M0) (Or.inl ⟨by simp [Region.wanted], fun w' hw' => by (obtain ⟨s0, s1, s2, s3⟩ := hw'; go_simp)⟩) ?_
    refine AnyBut.take (i := 1) (v := .pointer (some ⟨w.heap.size + 1, 1, none⟩)) rfl (by decide +kernel) (by decide +kernel) (by decide +kernel) (by decide +kernel) (fun _ _ _ h => h) (HS.out _ S0 M0) (Or.inl ⟨by simp [Region.wanted], fun w' hw' => by (obtain ⟨s0, s1, s2, s3⟩ := hw'; go_simp)⟩) ?_
    refine AnyBut.take (i := 2) (v := .int .i64 vi) rfl (by decide +kernel) (by decide +kernel) (by decide +kernel) (by decide +kernel) (fun _ _ _ h => h) (HS.out _ S0 M0) (Or.inl ⟨by simp [Region.wanted], fun w' hw' => by (obtain ⟨s0, s1, s2, s3⟩ := hw'; go_simp)⟩) ?_
    refine AnyBut.take (i := 3) (v := .int .i64 t) rfl (by decide +kernel) (by decide +kernel) (by decide +kernel) (by decide +kernel) (fun _ _ _ h => h) (HS.out _ S0 M0) (Or.inl ⟨by simp [Region.wanted], fun w' hw' => by (obtain ⟨s0, s1, s2, s3⟩ := hw'; go_simp)⟩) ?_
    refine AnyBut.take (i := 4) (v := .int .i64 t) rfl (by decide +kernel) (by decide +kernel) (by decide +kernel) (by decide +kernel) (fun _ _ _ h => h) (HS.out _ S0 M0) (Or.inl ⟨by simp [Region.wanted], fun w' hw' => by (obtain ⟨s0, s1, s2, s3⟩ := hw'; go_simp)⟩) ?_
    refine AnyBut.take (i := 7) (v := .pointer (some ⟨w.heap.size + 1, 0, none⟩)) rfl (by decide +kernel) (by decide +kernel) (by decide +kernel) (by decide +kernel) (fun _ _ _ h => h) (HS.out _ S0 M0) (Or.inl ⟨by simp [Region.wanted], fun w' hw' => by (obtain ⟨s0, s1, s2, s3⟩ := hw'; go_simp)⟩) ?_
    refine AnyBut.take (i := 8) (v := .int .i64 y) rfl (by decide +kernel) (by decide +kernel) (by decide +kernel) (by decide +kernel) (fun _ _ _ h => h) (HS.out _ S0 M0) (Or.inl ⟨by simp [Region.wanted], fun w' hw' => by (obtain ⟨s0, s1, s2, s3⟩ := hw'; go_simp)⟩) ?_
    refine AnyBut.take (i := 9) (v := .int .i64 t) rfl (by decide +kernel) (by decide +kernel) (by decide +kernel) (by decide +kernel) (fun _ _ _ h => h) (HS.out _ S0 M0) (Or.inl ⟨by simp [Region.wanted], fun w' hw' => by (obtain ⟨s0, s1, s2, s3⟩ := hw'; go_simp)⟩) ?_
    refine AnyBut.take (i := 10) (v := .int .i64 t) rfl (by decide +kernel) (by decide +kernel) (by decide +kernel) (by decide +kernel) (fun _ _ _ h => h) (HS.out _ S0 M0) (Or.inl ⟨by simp [Region.wanted], fun w' hw' => by (obtain ⟨s0, s1, s2, s3⟩ := hw'; go_simp)⟩) ?_
    refine AnyBut.take (i := 11) (v := .pointer (some ⟨w.heap.size, 3, none⟩)) rfl (by decide +kernel) (by decide +kernel) (by decide +kernel) (by decide +kernel) (fun _ _ _ h => h) (HS.out _ S0 M0) (Or.inl ⟨by simp [Region.wanted], fun w' hw' => by (obtain ⟨s0, s1, s2, s3⟩ := hw'; go_simp)⟩) ?_
    refine AnyBut.take (i := 12) (v := .int .i64 ga) rfl (by decide +kernel) (by decide +kernel) (by decide +kernel) (by decide +kernel) (fun _ _ _ h => h) (HS.out _ S0 M0) (Or.inl ⟨by simp [Region.wanted], fun w' hw' => by (obtain ⟨s0, s1, s2, s3⟩ := hw'; go_simp)⟩) ?_
    refine AnyBut.take (i := 13) (v := .pointer (some ⟨w.heap.size, 2, none⟩)) rfl (by decide +kernel) (by decide +kernel) (by decide +kernel) (by decide +kernel) (fun _ _ _ h => h) (HS.out _ S0 M0) (Or.inl ⟨by simp [Region.wanted], fun w' hw' => by (obtain ⟨s0, s1, s2, s3⟩ := hw'; go_simp)⟩) ?_
    refine AnyBut.take (i := 14) (v := .int .i64 ar) rfl (by decide +kernel) (by decide +kernel) (by decide +kernel) (by decide +kernel) (fun _ _ _ h => h) (HS.out _ S0 M0) (Or.inl ⟨by simp [Region.wanted], fun w' hw' => by (obtain ⟨s0, s1, s2, s3⟩ := hw'; go_simp)⟩) ?_
    refine at_act fun a' ha' => ?_
    simp [Act.put] at ha'
    subst ha'
    refine any_from (F := fun b0 a0 b a W => ∃ (d1 d2 d3 d4 d5 d6 : Bool) (v1 v2 v3 v4 v5 v6 : Value), b = ((((((b0.setIfInBounds 5 d1).setIfInBounds 6 d2).setIfInBounds 15 d3).setIfInBounds 16 d4).setIfInBounds 17 d5).setIfInBounds 18 d6) ∧ a = { tmps := ((((((a0.tmps.setIfInBounds 49 v1).setIfInBounds 50 v2).setIfInBounds 59 v3).setIfInBounds 60 v4).setIfInBounds 61 v5).setIfInBounds 11 v6), defers := a0.defers }
      ∧ Five w W #[.int .i64 lo, .int .i64 ri, .int .i64 ar, .int .i64 ga] #[.int .i64 y, .int .i64 vi] (longC [flow, vi, t, t]) (longC [3, y, t, t, ga, ar]) 4 6 D C LD LC LY d1 d2 d3 d4 d5 v1 v2 v3 v4 v5 ∧ (d6 = true → BigV W v6 (D + C) LY) ∧ BigV W u10 (A + B) LX) (by decide +kernel) ?h0 ?hS ?hs ?hd
    case h0 => exact ⟨false, false, false, false, false, false, u49, u50, u59, u60, u61, undef, by decide +kernel, by simp, ⟨S0, M0, L0, fun e => (by cases e), fun e => (by cases e), fun e => (by cases e), fun e => (by cases e), fun e => (by cases e)⟩, fun e => (by cases e), X0⟩
    case hS =>
      rintro b a W ⟨d1, d2, d3, d4, d5, d6, v1, v2, v3, v4, v5, v6, _, _, h, hg, hx⟩
      exact HS.out _ h.s h.m
    case hs =>
      rintro b a W ⟨d1, d2, d3, d4, d5, d6, v1, v2, v3, v4, v5, v6, rfl, rfl, h, hg, hx⟩ i hi
      have kb : keyB i d1 d2 d3 d4 d5 d6 = true := by
        clear h hg hx
        revert i
        revert d1 d2 d3 d4 d5 d6
        decide +kernel
      have key : (i = 5 ∧ d1 = false) ∨ (i = 6 ∧ d1 = true ∧ d2 = false) ∨ (i = 15 ∧ d3 = false) ∨ (i = 16 ∧ d3 = true ∧ d4 = false) ∨ (i = 17 ∧ d2 = true ∧ d4 = true ∧ d5 = false) ∨ (i = 18 ∧ d5 = true ∧ d6 = false) := by simpa [keyB, and_assoc, or_assoc] using kb
      clear kb
      clear hi
      rcases key with ⟨rfl, hk⟩ | ⟨rfl, hk⟩ | ⟨rfl, hk⟩ | ⟨rfl, hk⟩ | ⟨rfl, hk⟩ | ⟨rfl, hk⟩
      · refine ⟨_, rfl, rfl, fun K hK => ?_⟩
        go_simp
        refine hK _ _ ⟨true, d2, d3, d4, d5, d6, .slice (some ⟨W.heap.size, 0, none⟩) 4 4, v2, v3, v4, v5, v6, (by clear hK K h hg hx; revert d1 d2 d3 d4 d5 d6; decide +kernel), by simp, h.bs1, fun e => (hg e).under ((Below.refl _ W).alloc (Nat.le_refl _) (.cells (longC [flow, vi, t, t]) 2)), hx.under ((Below.refl _ W).alloc (Nat.le_refl _) (.cells (longC [flow, vi, t, t]) 2))⟩
      · obtain ⟨p, rfl, hp⟩ := h.f1 hk.1 hk.2
        refine ⟨_, rfl, rfl, fun K hK => ?_⟩
        go_simp
        refine (HD.out _ _ hp).mono ?_
        rintro e W' ⟨⟨vv, rfl, hvv⟩, hb⟩
        refine hK _ _ ⟨d1, true, d3, d4, d5, d6, .slice (some ⟨p, 0, none⟩) 4 4, vv, v3, v4, v5, v6, (by clear hK K h hg hx; revert d1 d2 d3 d4 d5 d6; decide +kernel), by simp, (h.under hb).c1 hvv, fun e => (hg e).under hb, hx.under hb⟩
      · refine ⟨_, rfl, rfl, fun K hK => ?_⟩
        go_simp
        refine hK _ _ ⟨d1, d2, true, d4, d5, d6, v1, v2, .slice (some ⟨W.heap.size, 0, none⟩) 6 6, v4, v5, v6, (by clear hK K h hg hx; revert d1 d2 d3 d4 d5 d6; decide +kernel), by simp, h.bs2, fun e => (hg e).under ((Below.refl _ W).alloc (Nat.le_refl _) (.cells (longC [3, y, t, t, ga, ar]) 2)), hx.under ((Below.refl _ W).alloc (Nat.le_refl _) (.cells (longC [3, y, t, t, ga, ar]) 2))⟩
      · obtain ⟨p, rfl, hp⟩ := h.f3 hk.1 hk.2
        refine ⟨_, rfl, rfl, fun K hK => ?_⟩
        go_simp
        refine (HC.out _ _ hp).mono ?_
        rintro e W' ⟨⟨vv, rfl, hvv⟩, hb⟩
        refine hK _ _ ⟨d1, d2, d3, true, d5, d6, v1, v2, .slice (some ⟨p, 0, none⟩) 6 6, vv, v5, v6, (by clear hK K h hg hx; revert d1 d2 d3 d4 d5 d6; decide +kernel), by simp, (h.under hb).c2 hvv, fun e => (hg e).under hb, hx.under hb⟩
      · have e1 := h.f2 hk.1
        have e2 := h.f4 hk.2.1
        refine ⟨_, rfl, rfl, fun K hK => ?_⟩
        go_simp
        refine (HDC.out _ _ _ e1 e2).mono ?_
        rintro e W' ⟨⟨vv, rfl, hvv⟩, hb⟩
        refine hK _ _ ⟨d1, d2, d3, d4, true, d6, v1, v2, v3, v4, vv, v6, (by clear hK K e1 e2 h hg hx; revert d1 d2 d3 d4 d5 d6; decide +kernel), by simp, (h.under hb).c3 hvv, fun e => (hg e).under hb, hx.under hb⟩
      · have e1 := h.f5 hk.1
        refine ⟨_, rfl, rfl, fun K hK => ?_⟩
        go_simp
        refine hK _ _ ⟨d1, d2, d3, d4, d5, true, v1, v2, v3, v4, v5, v5, (by clear hK K e1 h hg hx; revert d1 d2 d3 d4 d5 d6; decide +kernel), by simp, h, fun _ => e1, hx⟩
    case hd =>
      rintro b a W ⟨d1, d2, d3, d4, d5, d6, v1, v2, v3, v4, v5, v6, rfl, rfl, h, hg, hx⟩ hr
      have key : d6 = true := by
        clear h hg hx
        revert d1 d2 d3 d4 d5 d6
        decide +kernel
      have hv6 := hg key
      clear hr key hg
      simp
      go_wp2_with fail
      refine (HLE.out _ _ _ hx hv6).mono ?_
      rintro e W' ⟨rfl, hb⟩
      go_wp2_with fail
      go_ret
      exact ⟨rfl, h.lo.trans (hb.mono h.lo.size)⟩

end Go.Proofs.Ytgcfplkfclapiaa

/- Walks of the document's flows: does mud flow, and the least gradient. -/
namespace Mpl
theorem possible_chain (s : Seg) (m : Mud) (flow : Int) : possible s m flow = (goodSeg s && decide (0 ≤ m.Yield) && decide (m.Yield ≤ 1000000) && decide (1 ≤ m.Visc) && decide (m.Visc ≤ 1000000) && decide (0 ≤ flow) && decide (flow ≤ 1000000)) := by
  simp only [possible, within, Bool.decide_and, Bool.and_assoc]
end Mpl
namespace Go.Proofs.Ytgcfplkfclapiaa
open Go.RowKit Go.Shelf Go.Deep Mpl

theorem BigV.mono {W : World} {v : Value} {N : Int} {L L' : Nat} (h : BigV W v N L) (hl : L ≤ L') : BigV W v N L' := by
  obtain ⟨A, c, ds, h1, h2, h3, h4, h5⟩ := h
  exact ⟨A, c, ds, h1, h2, h3, h4, Nat.le_trans h5 hl⟩
theorem prodC_of (l : List Int) (n : Nat) (hn : n = l.length) (N : Int) (hN : prodI l l.length = N) (hin : ∀ x ∈ l, 0 ≤ x ∧ x ≤ 1099511627776) (hm : n ≤ 100) : ProdC (longC l) n N (1 + 3 * n) := by
  subst hn
  subst hN
  exact fun W p b => ref03_Product l _ _ W (ints_box b) (pick_in hin) hm
theorem addC_of (N1 N2 : Int) (L1 L2 : Nat) (h1 : L1 ≤ 1000) (h2 : L2 ≤ 1000) : AddC N1 N2 L1 L2 (max L1 L2 + 1) := by
  rintro W v1 v2 ⟨A, c, x, rfl, hx, hdx, rfl, hlx⟩ ⟨A', c', y, rfl, hy, hdy, rfl, hly⟩
  refine (ref03_Add x y A A' c c' W hx hy hdx hdy (by omega) (by omega)).mono ?_
  rintro e w' ⟨⟨v, rfl, hv⟩, hb⟩
  exact ⟨⟨v, rfl, hv.mono (by omega)⟩, hb⟩
theorem least_of (N1 N2 : Int) (L1 L2 : Nat) (h1 : L1 ≤ 1000) (h2 : L2 ≤ 1000) (W : World) (v1 v2 : Value) (b1 : BigV W v1 N1 L1) (b2 : BigV W v2 N2 L2) :
    Calls Try.prog 104 #[v1, v2] W fun e W' => e = .returned (.bool (decide (N2 ≤ N1))) ∧ Below W.heap.size W W' := by
  obtain ⟨A, c, x, rfl, hx, hdx, rfl, hlx⟩ := b1
  obtain ⟨A', c', y, rfl, hy, hdy, rfl, hly⟩ := b2
  exact ref03_AtLeast x y A A' c c' W hx hy hdx hdy (by omega) (by omega)

set_option maxHeartbeats 1000000 in
set_option maxRecDepth 100000 in
theorem ref03_flows (s : Seg) (m : Mud) (g flow : Int) (w : World) (hs : GoodSeg s) (hm : MudIn m flow) (hg0 : 0 ≤ g) (hg1 : g ≤ 20000) :
    Calls Try.prog 88 #[segV s, mudV m, .int .i64 g, .int .i64 flow] w fun e w' => e = .returned (.bool (flowsG s m g flow)) ∧ Below w.heap.size w w' := by
  obtain ⟨y0, y1, v0, v1, f0, f1⟩ := hm
  have a0 := hs.area0
  have a1 := hs.area1
  have p0 := hs.gap0
  have p1 := hs.gap1
  have hgt := mul_bd hg0 (show 0 ≤ s.Gap by omega) hg1 p1
  obtain ⟨t0, t1⟩ := hgt
  have hw : IntKind.i64.wrap (g * s.Gap) = g * s.Gap := IntWalk.i64_in _ (by omega)
  have hfl : Hid (flowsG s m g flow = flowsG s m g flow) := rfl
  unfold segV mudV
  have bs : Box ((w.alloc (.cells #[.int .i64 s.Long, .int .i64 s.Rise, .int .i64 s.Area, .int .i64 s.Gap] 29)).alloc (.cells #[.int .i64 m.Yield, .int .i64 m.Visc] 47)) w.heap.size 29 #[.int .i64 s.Long, .int .i64 s.Rise, .int .i64 s.Area, .int .i64 s.Gap] := (Box.new w _ _ rfl).alloc _
  have bm : Box ((w.alloc (.cells #[.int .i64 s.Long, .int .i64 s.Rise, .int .i64 s.Area, .int .i64 s.Gap] 29)).alloc (.cells #[.int .i64 m.Yield, .int .i64 m.Visc] 47)) (w.heap.size + 1) 47 #[.int .i64 m.Yield, .int .i64 m.Visc] := Box.new _ _ _ (by simp)
  obtain ⟨q2, q3⟩ := seg_box1 bs
  obtain ⟨q4, q5⟩ := mud_box bm
  by_cases hf : flow = 0
  · subst hf
    have hr : flowsG s m g 0 = true := by simp [flowsG]
    rw [hr]
    obtain ⟨t, ht⟩ : ∃ t, g * s.Gap = t := ⟨_, rfl⟩
    rw [ht] at hw
    have hw' : IntKind.i64.wrap (g * s.Gap) = t := by rw [ht]; exact hw
    clear hfl t0 t1 bs bm hs hw hr ht
    go_enter Try.func88, Try.ntmps88
    go_wp2_with fail
    go_ret
    exact ⟨rfl, (by repeat (first | exact Below.refl _ _ | assumption | refine Below.setCell ?_ (by first | (simp; done) | (simp; omega)) _ | refine belowDrewN ?_ _ | refine Below.drew ?_ | refine Below.alloc ?_ (by first | (simp; done) | (simp; omega)) _))⟩
  by_cases hty : g * s.Gap ≤ m.Yield
  · have hr : flowsG s m g flow = false := by simp [flowsG, hf, hty]
    rw [hr]
    have hf0 : (flow == 0) = false := by simpa using hf
    have hd : decide (g * s.Gap ≤ m.Yield) = true := decide_eq_true hty
    obtain ⟨t, ht⟩ : ∃ t, g * s.Gap = t := ⟨_, rfl⟩
    have hw' : IntKind.i64.wrap (g * s.Gap) = t := by rw [hw, ht]
    rw [ht] at hd
    clear ht hw t0 t1 hr bs bm hf hty hs hfl
    go_enter Try.func88, Try.ntmps88
    go_wp2_with fail
    go_ret
    exact ⟨rfl, (by repeat (first | exact Below.refl _ _ | assumption | refine Below.setCell ?_ (by first | (simp; done) | (simp; omega)) _ | refine belowDrewN ?_ _ | refine Below.drew ?_ | refine Below.alloc ?_ (by first | (simp; done) | (simp; omega)) _))⟩
  clear q2 q3 q4 q5 bs bm
  have hy : m.Yield < g * s.Gap := by omega
  have hC : flowsG s m g flow = decide (flow * m.Visc * (g * s.Gap) * (g * s.Gap) + 3 * m.Yield * (g * s.Gap) * (g * s.Gap) * s.Gap * s.Area ≤ 2 * (g * s.Gap) * (g * s.Gap) * (g * s.Gap) * s.Gap * s.Area + m.Yield * m.Yield * m.Yield * s.Gap * s.Area) := by
    rw [flowsG, if_neg hf, if_neg hty, Int.add_comm (flow * _ * _ * _)]
  rw [hC]
  clear hC hfl hty
  obtain ⟨t, ht⟩ : ∃ t, g * s.Gap = t := ⟨_, rfl⟩
  have hw' : IntKind.i64.wrap (g * s.Gap) = t := by rw [hw, ht]
  rw [ht] at hy t0 t1
  rw [ht]
  clear ht hw
  generalize s.Gap = ga at *
  generalize s.Area = ar at *
  generalize m.Yield = y at *
  generalize m.Visc = vi at *
  refine refflows_walk s.Long s.Rise ar ga y vi g flow t w (2 * t * t * t * ga * ar) (y * y * y * ga * ar) (3 * y * t * t * ga * ar) (flow * vi * t * t) (1 + 3 * 6) (1 + 3 * 5) (1 + 3 * 6) (1 + 3 * 4) (max (1 + 3 * 6) (1 + 3 * 5) + 1) (max (1 + 3 * 4) (1 + 3 * 6) + 1) _ hw' hf hy ?_ ?_ ?_ ?_ ?_ ?_ ?_
  · exact prodC_of [2, t, t, t, ga, ar] 6 rfl _ (by simp [prodI]) (by simp; omega) (by omega)
  · exact prodC_of [y, y, y, ga, ar] 5 rfl _ (by simp [prodI]) (by simp; omega) (by omega)
  · exact prodC_of [3, y, t, t, ga, ar] 6 rfl _ (by simp [prodI]) (by simp; omega) (by omega)
  · exact prodC_of [flow, vi, t, t] 4 rfl _ (by simp [prodI]) (by simp; omega) (by omega)
  · exact addC_of _ _ _ _ (by omega) (by omega)
  · exact addC_of _ _ _ _ (by omega) (by omega)
  · exact fun W v1 v2 b1 b2 => least_of _ _ _ _ (by omega) (by omega) W v1 v2 b1 b2

set_option maxHeartbeats 1000000 in
set_option maxRecDepth 100000 in
theorem ref03_fair (s : Seg) (m : Mud) (flow : Int) (w : World) :
    Calls Try.prog 87 #[segV s, mudV m, .int .i64 flow] w fun e w' => e = .returned (.bool (possible s m flow)) ∧ Below w.heap.size w w' := by
  have HSG := Lib.hid (fun W => ref03_Seg s W)
  have hp : Hid (possible s m flow = (goodSeg s && decide (0 ≤ m.Yield) && decide (m.Yield ≤ 1000000) && decide (1 ≤ m.Visc) && decide (m.Visc ≤ 1000000) && decide (0 ≤ flow) && decide (flow ≤ 1000000))) := possible_chain s m flow
  generalize possible s m flow = res at *
  generalize goodSeg s = r at *
  unfold segV mudV at *
  obtain ⟨w0, hw0⟩ : ∃ w0, (w.alloc (.cells #[.int .i64 s.Long, .int .i64 s.Rise, .int .i64 s.Area, .int .i64 s.Gap] 29)).alloc (.cells #[.int .i64 m.Yield, .int .i64 m.Visc] 47) = w0 := ⟨_, rfl⟩
  have bs : Box w0 w.heap.size 29 #[.int .i64 s.Long, .int .i64 s.Rise, .int .i64 s.Area, .int .i64 s.Gap] := by rw [← hw0]; exact (Box.new w _ _ rfl).alloc _
  have BM := Lib.hid (show Box w0 (w.heap.size + 1) 47 #[.int .i64 m.Yield, .int .i64 m.Visc] by rw [← hw0]; exact Box.new _ _ _ (by simp))
  have HB0 := Lib.hid (show Below w.heap.size w w0 by rw [← hw0]; exact (by repeat (first | exact Below.refl _ _ | assumption | refine Below.setCell ?_ (by first | (simp; done) | (simp; omega)) _ | refine belowDrewN ?_ _ | refine Below.drew ?_ | refine Below.alloc ?_ (by first | (simp; done) | (simp; omega)) _)))
  have HW0 := Lib.hid hw0
  obtain ⟨c0, c1, c2, c3⟩ := load_agg4 bs
  clear hw0 bs
  go_enter Try.func87, Try.ntmps87
  go_wp2_with fail
  rw [HW0.out]
  go_wp2_with fail
  refine (HSG.out _).mono ?_
  rintro e w1 ⟨rfl, hb1⟩
  obtain ⟨q4, q5⟩ := mud_box (BM.out.under hb1)
  have HB1 := Lib.hid (HB0.out.trans (hb1.mono HB0.out.size))
  clear hb1 c0 c1 c2 c3
  generalize m.Yield = y at *
  generalize m.Visc = vi at *
  cases r
  · go_wp2_with fail
    go_ret
    exact ⟨ret_b (by rw [hp.out]; simp), HB1.out⟩
  cases h1 : decide (0 ≤ y)
  · go_wp2_with fail
    go_ret
    exact ⟨ret_b (by rw [hp.out, h1]; simp), HB1.out⟩
  cases h2 : decide (y ≤ 1000000)
  · go_wp2_with fail
    go_ret
    exact ⟨ret_b (by rw [hp.out, h2]; simp), HB1.out⟩
  cases h3 : decide (1 ≤ vi)
  · go_wp2_with fail
    go_ret
    exact ⟨ret_b (by rw [hp.out, h3]; simp), HB1.out⟩
  cases h4 : decide (vi ≤ 1000000)
  · go_wp2_with fail
    go_ret
    exact ⟨ret_b (by rw [hp.out, h4]; simp), HB1.out⟩
  cases h5 : decide (0 ≤ flow)
  · go_wp2_with fail
    go_ret
    exact ⟨ret_b (by rw [hp.out, h5]; simp), HB1.out⟩
  cases h6 : decide (flow ≤ 1000000)
  · go_wp2_with fail
    go_ret
    exact ⟨ret_b (by rw [hp.out, h6]; simp), HB1.out⟩
  go_wp2_with fail
  go_ret
  exact ⟨ret_b (by rw [hp.out, h1, h2, h3, h4, h5, h6]; simp), HB1.out⟩

set_option maxHeartbeats 1000000 in
set_option maxRecDepth 100000 in
theorem ref03_Flows (s : Seg) (m : Mud) (g flow : Int) (w : World) :
    Calls Try.prog 52 #[segV s, mudV m, .int .i64 g, .int .i64 flow] w fun e w' => e = .returned (.bool (flows s m g flow)) ∧ Below w.heap.size w w' := by
  have HP := Lib.hid (fun W => ref03_fair s m flow W)
  have HF := Lib.hid (fun (h1 : possible s m flow = true) (h0 : 0 ≤ g) (h2 : g ≤ 20000) W => ref03_flows s m g flow W ((possible_iff s m flow).1 h1).1.1 ((possible_iff s m flow).1 h1).2 h0 h2)
  have hd : Hid (flows s m g flow = (possible s m flow && (decide (0 ≤ g) && decide (g ≤ 20000)) && flowsG s m g flow)) := by unfold Hid; simp only [flows, within, Bool.decide_and]
  generalize flows s m g flow = res at *
  unfold segV mudV at *
  obtain ⟨w0, hw0⟩ : ∃ w0, (w.alloc (.cells #[.int .i64 s.Long, .int .i64 s.Rise, .int .i64 s.Area, .int .i64 s.Gap] 29)).alloc (.cells #[.int .i64 m.Yield, .int .i64 m.Visc] 47) = w0 := ⟨_, rfl⟩
  have bs : Box w0 w.heap.size 29 #[.int .i64 s.Long, .int .i64 s.Rise, .int .i64 s.Area, .int .i64 s.Gap] := by rw [← hw0]; exact (Box.new w _ _ rfl).alloc _
  have bm : Box w0 (w.heap.size + 1) 47 #[.int .i64 m.Yield, .int .i64 m.Visc] := by rw [← hw0]; exact Box.new _ _ _ (by simp)
  have HB0 := Lib.hid (show Below w.heap.size w w0 by rw [← hw0]; exact (by repeat (first | exact Below.refl _ _ | assumption | refine Below.setCell ?_ (by first | (simp; done) | (simp; omega)) _ | refine belowDrewN ?_ _ | refine Below.drew ?_ | refine Below.alloc ?_ (by first | (simp; done) | (simp; omega)) _)))
  have HW0 := Lib.hid hw0
  have BM := Lib.hid bm
  have BS := Lib.hid bs
  obtain ⟨c0, c1, c2, c3⟩ := load_agg4 bs
  obtain ⟨q4, q5⟩ := mud_box bm
  clear hw0 bs bm
  go_enter Try.func52, Try.ntmps52
  go_wp2_with fail
  rw [HW0.out]
  go_wp2_with fail
  refine (HP.out _).mono ?_
  rintro e w1 ⟨rfl, hb1⟩
  have B1 := BS.out.under hb1
  have B2 := BM.out.under hb1
  have HB1 := Lib.hid (HB0.out.trans (hb1.mono HB0.out.size))
  clear hb1 c0 c1 c2 c3 q4 q5
  obtain ⟨c0, c1, c2, c3⟩ := load_agg4 B1
  obtain ⟨q4, q5⟩ := mud_box B2
  clear B1 B2 BS BM HP
  cases r : possible s m flow
  · go_wp2_with fail
    go_ret
    exact ⟨ret_b (by rw [hd.out, r]; simp), HB1.out⟩
  cases h1 : decide (0 ≤ g)
  · go_wp2_with fail
    go_ret
    exact ⟨ret_b (by rw [hd.out, h1]; simp), HB1.out⟩
  cases h2 : decide (g ≤ 20000)
  · go_wp2_with fail
    go_ret
    exact ⟨ret_b (by rw [hd.out, h2]; simp), HB1.out⟩
  have HF2 := Lib.hid (fun W => HF.out r (of_decide_eq_true h1) (of_decide_eq_true h2) W)
  clear HF
  go_wp2_with fail
  refine (HF2.out _).mono ?_
  rintro e w2 ⟨rfl, hb2⟩
  go_wp2_with fail
  go_ret
  exact ⟨ret_b (by rw [hd.out, r, h1, h2]; simp), HB1.out.trans (hb2.mono HB1.out.size)⟩

set_option maxHeartbeats 2000000 in
set_option maxRecDepth 100000 in
theorem ref03_Gradient (s : Seg) (m : Mud) (flow : Int) (w : World) :
    Calls Try.prog 49 #[segV s, mudV m, .int .i64 flow] w fun e w' => e = .returned (.tuple #[.int .i64 (gradient s m flow).1, .bool (gradient s m flow).2]) ∧ Below w.heap.size w w' := by
  have HP := Lib.hid (fun W => ref03_fair s m flow W)
  have HF := Lib.hid (fun (h1 : possible s m flow = true) g (h0 : 0 ≤ g) (h2 : g ≤ 20000) W => ref03_flows s m g flow W ((possible_iff s m flow).1 h1).1.1 ((possible_iff s m flow).1 h1).2 h0 h2)
  have hd : Hid (gradient s m flow = if possible s m flow && flowsG s m 20000 flow then (bsearch (fun g => flowsG s m g flow) 20000 0 20000, true) else (0, false)) := rfl
  generalize gradient s m flow = res at *
  unfold segV mudV at *
  obtain ⟨w0, hw0⟩ : ∃ w0, (w.alloc (.cells #[.int .i64 s.Long, .int .i64 s.Rise, .int .i64 s.Area, .int .i64 s.Gap] 29)).alloc (.cells #[.int .i64 m.Yield, .int .i64 m.Visc] 47) = w0 := ⟨_, rfl⟩
  have bs : Box w0 w.heap.size 29 #[.int .i64 s.Long, .int .i64 s.Rise, .int .i64 s.Area, .int .i64 s.Gap] := by rw [← hw0]; exact (Box.new w _ _ rfl).alloc _
  have bm : Box w0 (w.heap.size + 1) 47 #[.int .i64 m.Yield, .int .i64 m.Visc] := by rw [← hw0]; exact Box.new _ _ _ (by simp)
  have HB0 := Lib.hid (show Below w.heap.size w w0 by rw [← hw0]; exact (by repeat (first | exact Below.refl _ _ | assumption | refine Below.setCell ?_ (by first | (simp; done) | (simp; omega)) _ | refine belowDrewN ?_ _ | refine Below.drew ?_ | refine Below.alloc ?_ (by first | (simp; done) | (simp; omega)) _)))
  have HW0 := Lib.hid hw0
  have BM := Lib.hid bm
  have BS := Lib.hid bs
  obtain ⟨c0, c1, c2, c3⟩ := load_agg4 bs
  obtain ⟨q4, q5⟩ := mud_box bm
  clear hw0 bs bm
  go_enter Try.func49, Try.ntmps49
  go_wp2_with fail
  rw [HW0.out]
  go_wp2_with fail
  refine (HP.out _).mono ?_
  rintro e w1 ⟨rfl, hb1⟩
  have B1 := Lib.hid (BS.out.under hb1)
  have B2 := Lib.hid (BM.out.under hb1)
  have HB1 := Lib.hid (HB0.out.trans (hb1.mono HB0.out.size))
  clear hb1 c0 c1 c2 c3 q4 q5 BS BM HP
  obtain ⟨c0, c1, c2, c3⟩ := load_agg4 B1.out
  obtain ⟨q4, q5⟩ := mud_box B2.out
  cases r : possible s m flow
  · have hs : Hid (res = (0, false)) := by unfold Hid; rw [hd.out, r]; rfl
    go_wp2_with fail
    go_ret2
    exact ⟨by rw [hs.out]; rfl, HB1.out⟩
  have HF2 := Lib.hid (HF.out r)
  have HF20 := Lib.hid (HF2.out 20000 (by omega) (by omega))
  clear HF
  cases h2 : flowsG s m 20000 flow
  · have hs : Hid (res = (0, false)) := by unfold Hid; rw [hd.out, r, h2]; rfl
    rw [h2] at HF20
    go_wp2_with fail
    refine (HF20.out _).mono ?_
    rintro e w2 ⟨rfl, hb2⟩
    go_wp2_with fail
    go_ret2
    exact ⟨by rw [hs.out]; rfl, HB1.out.trans (hb2.mono HB1.out.size)⟩
  have hs : Hid (res = (bsearch (fun g => flowsG s m g flow) 20000 0 20000, true)) := by unfold Hid; rw [hd.out, r, h2]; rfl
  rw [h2] at HF20
  generalize hf : (fun g => flowsG s m g flow) = f at *
  have HFF := Lib.hid (fun g h0 h1 W => (by have := HF2.out g h0 h1 W; rw [show flowsG s m g flow = f g from congrFun hf g] at this; exact this : Calls Try.prog 88 #[.agg #[.int .i64 s.Long, .int .i64 s.Rise, .int .i64 s.Area, .int .i64 s.Gap], .agg #[.int .i64 m.Yield, .int .i64 m.Visc], .int .i64 g, .int .i64 flow] W fun e w' => e = .returned (.bool (f g)) ∧ Below W.heap.size W w'))
  have HSt := Lib.hid (fun n lo hi h => bsearch_step f n lo hi h)
  have HEn := Lib.hid (fun n lo hi h => bsearch_end f n lo hi h)
  generalize hbs : bsearch f 20000 0 20000 = bb at *
  have HBS := Lib.hid hbs
  clear hd r h2 hf HF2 hbs
  go_wp2_with fail
  refine (HF20.out _).mono ?_
  rintro e w2 ⟨rfl, hb2⟩
  have C1 := Lib.hid (B1.out.under hb2)
  have C2 := Lib.hid (B2.out.under hb2)
  have HB2 := Lib.hid (HB1.out.trans (hb2.mono HB1.out.size))
  clear hb2 B1 B2 HB1 c0 c1 c2 c3 q4 q5 HF20
  go_wp2_with fail
  go_loopw [8, 9] (fun s8 s9 wr => ∃ (n : Nat) (lo hi : Int), s8 = .int .i64 lo ∧ s9 = .int .i64 hi ∧ 0 ≤ lo ∧ lo ≤ hi ∧ hi ≤ 20000 ∧ hi - lo ≤ n ∧ Hid (bsearch f n lo hi = bb) ∧ Hid (Box wr w.heap.size 29 #[.int .i64 s.Long, .int .i64 s.Rise, .int .i64 s.Area, .int .i64 s.Gap]) ∧ Hid (Box wr (w.heap.size + 1) 47 #[.int .i64 m.Yield, .int .i64 m.Visc]) ∧ Hid (Below w.heap.size w wr)) (fun s8 s9 _ => (intOf s9 - intOf s8).toNat)
  case atStart => exact ⟨20000, 0, 20000, rfl, rfl, by omega, by omega, by omega, by omega, HBS, C1, C2, HB2⟩
  case round =>
    obtain ⟨n, lo, hi, rfl, rfl, h0, h1, h2, h3, hr, D1, D2, BW⟩ := hrel
    by_cases hlt : lo < hi
    · have t0 : decide (lo < hi) = true := decide_eq_true hlt
      obtain ⟨k, rfl⟩ : ∃ k, n = k + 1 := ⟨n - 1, by omega⟩
      have hst := Lib.hid (HSt.out k lo hi hlt)
      have HC := Lib.hid (HFF.out ((lo + hi) / 2) (by omega) (by omega))
      have k1 : lo ≤ (lo + hi) / 2 := by omega
      have k2 : (lo + hi) / 2 < hi := by omega
      obtain ⟨c0, c1, c2, c3⟩ := load_agg4 D1.out
      obtain ⟨q4, q5⟩ := mud_box D2.out
      cases hq : f ((lo + hi) / 2)
      · rw [hq] at HC hst
        have hn : Hid (bsearch f k ((lo + hi) / 2 + 1) hi = bb) := by unfold Hid; rw [← hr.out, hst.out]; rfl
        go_wp2_with fail
        refine (HC.out _).mono ?_
        rintro e w' ⟨rfl, hb'⟩
        go_wp2_with fail
        go_roundw
        case rel => exact ⟨k, _, _, rfl, rfl, by omega, by omega, by omega, by omega, hn, D1.out.under hb', D2.out.under hb', BW.out.trans (hb'.mono BW.out.size)⟩
        case measure => simp [intOf]; omega
      · rw [hq] at HC hst
        have hn : Hid (bsearch f k lo ((lo + hi) / 2) = bb) := by unfold Hid; rw [← hr.out, hst.out]; rfl
        go_wp2_with fail
        refine (HC.out _).mono ?_
        rintro e w' ⟨rfl, hb'⟩
        go_wp2_with fail
        go_roundw
        case rel => exact ⟨k, _, _, rfl, rfl, by omega, by omega, by omega, by omega, hn, D1.out.under hb', D2.out.under hb', BW.out.trans (hb'.mono BW.out.size)⟩
        case measure => simp [intOf]; omega
    · have t0 : decide (lo < hi) = false := decide_eq_false hlt
      have he := Lib.hid (HEn.out n lo hi (by omega))
      go_wp2_with fail
      go_ret2
      exact ⟨by rw [hs.out, ← hr.out, he.out]; rfl, BW.out⟩

end Go.Proofs.Ytgcfplkfclapiaa

/- Walks of the document: the loss above a place (printed by gen_refloss.py). -/
namespace Go.Proofs.Ytgcfplkfclapiaa
open Go.RowKit Go.Shelf Go.Deep Mpl
attribute [local go_sem] Oper.semAt_some

theorem results_loss1 {fn : Func} {p q : Tmp} (h : fn.results = #[.cell p 34, .tmp q]) (tmps : Array Value) (w : World) (g : Nat) (x y : Int) (b : Bool)
    (hp : tmps.getD p undef = .pointer (some ⟨g, 0, none⟩)) (hq : tmps.getD q undef = .bool b) (h1 : Box w g 34 #[.int .i64 x, .int .i64 y]) :
    (results fn tmps).run Try.prog w = .ok (.tuple #[.agg #[.int .i64 x, .int .i64 y], .bool b]) w := by
  have q0 := h1.cell 0
  have q1 := h1.cell 1
  simp only [List.getElem?_toArray, List.getElem?_cons_zero, List.getElem?_cons_succ] at q0 q1
  simp only [results, h]
  rw [Array.getD_eq_getD_getElem?] at hp hq
  simp [Sem.run_bind, Result.andThen]
  rw [hp, hq]
  simp [go_sem, q0, q1]

/-- the boxes of the loop -/
structure LossSt (w W : World) (o : Nat) (vh : Value) (m : Mud) (LO HI : Int) : Prop where
  h : Box W w.heap.size 25 #[vh]
  m : Box W (w.heap.size + 1) 47 #[.int .i64 m.Yield, .int .i64 m.Visc]
  r : Box W (w.heap.size + 1 + 1) 34 #[.int .i64 0, .int .i64 0]
  o : Box W o 34 #[.int .i64 LO, .int .i64 HI]
  b : Below w.heap.size w W
theorem LossSt.under {w W W' : World} {o : Nat} {vh : Value} {m : Mud} {LO HI : Int} (h : LossSt w W o vh m LO HI) (hb : Below W.heap.size W W') : LossSt w W' o vh m LO HI :=
  ⟨h.h.under hb, h.m.under hb, h.r.under hb, h.o.under hb, h.b.trans (hb.mono h.b.size)⟩
theorem LossSt.put {w W : World} {o : Nat} {vh : Value} {m : Mud} {LO HI : Int} (h : LossSt w W o vh m LO HI) (ho : w.heap.size + 1 + 1 < o) (x y : Int) :
    LossSt w ((W.setCell ⟨o, 0, none⟩ (.int .i64 x)).setCell ⟨o, 1, none⟩ (.int .i64 y)) o vh m x y :=
  ⟨(h.h.far (by simp; omega) _).far (by simp; omega) _, (h.m.far (by simp; omega) _).far (by simp; omega) _, (h.r.far (by simp; omega) _).far (by simp; omega) _, by simpa using (h.o.set_ 0 (.int .i64 x)).set_ 1 (.int .i64 y), (h.b.setCell (p := ⟨o, 0, none⟩) (by simp; omega) _).setCell (p := ⟨o, 1, none⟩) (by simp; omega) _⟩

set_option maxHeartbeats 8000000 in
set_option maxRecDepth 100000 in
theorem ref03_Loss (v0 : Value) (l : List Seg) (m : Mud) (flow u : Int) (w : World) (hv : HoleV w w.heap.size v0 l) :
    Calls Try.prog 51 #[v0, mudV m, .int .i64 flow, .int .i64 u] w fun e w' => e = .returned (.tuple #[.agg #[.int .i64 (lossOf l m flow u).1.Lo, .int .i64 (lossOf l m flow u).1.Hi], .bool (lossOf l m flow u).2]) ∧ Below w.heap.size w w' := by
  have hvv := hv
  obtain ⟨A, c, rfl, hS⟩ := hv
  obtain ⟨w0, hw0⟩ : ∃ w0, ((w.alloc (.cells #[.slice A l.length c] 25)).alloc (.cells #[.int .i64 m.Yield, .int .i64 m.Visc] 47)).alloc (.cells #[.int .i64 0, .int .i64 0] 34) = w0 := ⟨_, rfl⟩
  have hB0 : Below w.heap.size w w0 := by rw [← hw0]; exact (by repeat (first | exact Below.refl _ _ | assumption | refine Below.setCell ?_ (by first | (simp; done) | (simp; omega)) _ | refine belowDrewN ?_ _ | refine Below.drew ?_ | refine Below.alloc ?_ (by first | (simp; done) | (simp; omega)) _))
  have B0 := Lib.hid (show Box w0 w.heap.size 25 #[.slice A l.length c] by rw [← hw0]; exact ((Box.new w _ _ rfl).alloc _).alloc _)
  have B1 := Lib.hid (show Box w0 (w.heap.size + 1) 47 #[.int .i64 m.Yield, .int .i64 m.Visc] by rw [← hw0]; exact (Box.new _ _ _ (by simp)).alloc _)
  have B2 := Lib.hid (show Box w0 (w.heap.size + 1 + 1) 34 #[.int .i64 0, .int .i64 0] by rw [← hw0]; exact Box.new _ _ _ (by simp))
  have HCK := Lib.hid (ref03_CheckHole _ l w0 (hvv.below hB0))
  have HVO := Lib.hid (fun W (hW : Below w0.heap.size w0 W) => ref03_Volume _ l W ((hvv.below hB0).below hW))
  have HW0 := Lib.hid hw0
  have HB0 := Lib.hid hB0
  have hin : Hid (inHole l u = (decide (checkHole l = 0) && (decide (0 ≤ u) && decide (u ≤ sizeUp l l.length)))) := by unfold Hid; simp only [inHole, within, Bool.decide_and]
  have hF := Lib.hid (fun h => lossOf_not l m flow u h)
  have hT := Lib.hid (lossOf_eq l m flow u)
  have HS := Lib.hid hS
  have q0 := hole_box B0.out
  clear hw0 hvv hS hB0
  unfold mudV
  by_cases h0 : checkHole l = 0
  case neg =>
    have hs := Lib.hid (hF.out (.inl (by rw [hin.out, decide_eq_false h0]; rfl)))
    have hz : (checkHole l != 0) = true := by simpa using h0
    clear hin hF hT h0 HS HVO
    generalize checkHole l = ch at *
    generalize lossOf l m flow u = res at *
    generalize l.length = n at *
    go_enter Try.func51, Try.ntmps51
    go_wp2_with fail
    rw [HW0.out]
    go_wp2_with fail
    refine HCK.out.mono ?_
    rintro e w1 ⟨rfl, hb1⟩
    have C2 := Lib.hid (B2.out.under hb1)
    have HB1 := Lib.hid (HB0.out.trans (hb1.mono HB0.out.size))
    have f0 := C2.out.frozen 0
    have f1 := C2.out.frozen 1
    have x0 := (show w1.cell? ⟨w.heap.size + 1 + 1, 0, none⟩ = some (.int .i64 0) from C2.out.cell 0)
    have x1 := (show w1.cell? ⟨w.heap.size + 1 + 1, 1, none⟩ = some (.int .i64 0) from C2.out.cell 1)
    clear hb1
    go_wp2_with fail
    refine bodyPost_ret (results_loss1 rfl _ _ (w.heap.size + 1 + 1) 0 0 false rfl rfl (by simpa using (C2.out.set_ 0 (.int .i64 0)).set_ 1 (.int .i64 0))) rfl ⟨by rw [hs.out], (HB1.out.setCell (p := ⟨w.heap.size + 1 + 1, 0, none⟩) (by simp; omega) _).setCell (p := ⟨w.heap.size + 1 + 1, 1, none⟩) (by simp; omega) _⟩
  have HG := Lib.hid ((checkHole_iff l).1 h0)
  have hvo : volumeOf l = sizeUp l l.length := by unfold volumeOf; rw [if_pos h0]
  rw [h0] at HCK
  rw [hvo] at HVO
  rw [decide_eq_true h0, Bool.true_and] at hin
  clear h0 hvo
  by_cases hu : 0 ≤ u
  case neg =>
    have hs := Lib.hid (hF.out (.inl (by rw [hin.out, decide_eq_false hu]; rfl)))
    have t0 : decide (u < 0) = true := decide_eq_true (by omega)
    clear hin hF hT HS HVO
    generalize lossOf l m flow u = res at *
    generalize l.length = n at *
    go_enter Try.func51, Try.ntmps51
    go_wp2_with fail
    rw [HW0.out]
    go_wp2_with fail
    refine HCK.out.mono ?_
    rintro e w1 ⟨rfl, hb1⟩
    have C2 := Lib.hid (B2.out.under hb1)
    have HB1 := Lib.hid (HB0.out.trans (hb1.mono HB0.out.size))
    have f0 := C2.out.frozen 0
    have f1 := C2.out.frozen 1
    have x0 := (show w1.cell? ⟨w.heap.size + 1 + 1, 0, none⟩ = some (.int .i64 0) from C2.out.cell 0)
    have x1 := (show w1.cell? ⟨w.heap.size + 1 + 1, 1, none⟩ = some (.int .i64 0) from C2.out.cell 1)
    clear hb1
    go_wp2_with fail
    refine bodyPost_ret (results_loss1 rfl _ _ (w.heap.size + 1 + 1) 0 0 false rfl rfl (by simpa using (C2.out.set_ 0 (.int .i64 0)).set_ 1 (.int .i64 0))) rfl ⟨by rw [hs.out], (HB1.out.setCell (p := ⟨w.heap.size + 1 + 1, 0, none⟩) (by simp; omega) _).setCell (p := ⟨w.heap.size + 1 + 1, 1, none⟩) (by simp; omega) _⟩
  have t0 : decide (u < 0) = false := decide_eq_false (by omega)
  by_cases hu2 : u ≤ sizeUp l l.length
  case neg =>
    have hs := Lib.hid (hF.out (.inl (by rw [hin.out, decide_eq_false hu2]; simp)))
    have t1 : decide (sizeUp l l.length < u) = true := decide_eq_true (by omega)
    clear hin hF hT HS
    generalize sizeUp l l.length = V at *
    generalize lossOf l m flow u = res at *
    generalize l.length = n at *
    go_enter Try.func51, Try.ntmps51
    go_wp2_with fail
    rw [HW0.out]
    go_wp2_with fail
    refine HCK.out.mono ?_
    rintro e w1 ⟨rfl, hb1⟩
    have q0 := hole_box (B0.out.under hb1)
    have HB1 := Lib.hid (HB0.out.trans (hb1.mono HB0.out.size))
    have B01 := Lib.hid hb1
    clear hb1
    go_wp2_with fail
    refine (HVO.out _ B01.out).mono ?_
    rintro e w2 ⟨rfl, hb2⟩
    have C2 := Lib.hid ((B2.out.under B01.out).under hb2)
    have HB2 := Lib.hid (HB1.out.trans (hb2.mono HB1.out.size))
    have f0 := C2.out.frozen 0
    have f1 := C2.out.frozen 1
    have x0 := (show w2.cell? ⟨w.heap.size + 1 + 1, 0, none⟩ = some (.int .i64 0) from C2.out.cell 0)
    have x1 := (show w2.cell? ⟨w.heap.size + 1 + 1, 1, none⟩ = some (.int .i64 0) from C2.out.cell 1)
    clear hb2
    go_wp2_with fail
    refine bodyPost_ret (results_loss1 rfl _ _ (w.heap.size + 1 + 1) 0 0 false rfl rfl (by simpa using (C2.out.set_ 0 (.int .i64 0)).set_ 1 (.int .i64 0))) rfl ⟨by rw [hs.out], (HB2.out.setCell (p := ⟨w.heap.size + 1 + 1, 0, none⟩) (by simp; omega) _).setCell (p := ⟨w.heap.size + 1 + 1, 1, none⟩) (by simp; omega) _⟩
  have t1 : decide (sizeUp l l.length < u) = false := decide_eq_false (by omega)
  have hiT : inHole l u = true := by rw [hin.out, decide_eq_true hu, decide_eq_true hu2]; rfl
  have hsT := Lib.hid (hT.out hiT)
  have hsF := Lib.hid (fun ha => hF.out (.inr ha))
  have hV := (HG.out.ups l.length (Nat.le_refl _)).2.2.2.2.2
  have HUB := Lib.hid (show 0 ≤ u ∧ u ≤ 5242880000 by omega)
  have hfew := HG.out.few
  clear hin hF hT hiT hu hu2 hV
  generalize sizeUp l l.length = V at *
  generalize lossOf l m flow u = res at *
  generalize hn : l.length = n at *
  have HN := Lib.hid hn
  clear hn
  go_enter Try.func51, Try.ntmps51
  go_wp2_with fail
  rw [HW0.out]
  go_wp2_with fail
  refine HCK.out.mono ?_
  rintro e wa ⟨rfl, hba⟩
  have q0 := hole_box (B0.out.under hba)
  have HBa := Lib.hid (HB0.out.trans (hba.mono HB0.out.size))
  have B0a := Lib.hid hba
  clear hba
  go_wp2_with fail
  refine (HVO.out _ B0a.out).mono ?_
  rintro e w1 ⟨rfl, hb1⟩
  have hbb := B0a.out.trans (hb1.mono B0a.out.size)
  have hlt := ((B2.out.under B0a.out).under hb1).lt
  obtain ⟨w3, hw3⟩ : ∃ w3, w1.alloc (.cells #[.int .i64 0, .int .i64 0] 34) = w3 := ⟨_, rfl⟩
  have b03 := hbb.alloc hbb.size (.cells #[.int .i64 0, .int .i64 0] 34)
  rw [hw3] at b03
  have LS := Lib.hid (show LossSt w w3 w1.heap.size (.slice A n c) m 0 0 from ⟨B0.out.below b03 (B0.out.lt), B1.out.below b03 (B1.out.lt), B2.out.below b03 (B2.out.lt), by rw [← hw3]; exact Box.new _ _ _ rfl, HB0.out.trans (b03.mono HB0.out.size)⟩)
  have HW3 := Lib.hid hw3
  clear hw3 hb1 hbb b03 q0 HCK HVO HBa B0a B0 B1 B2 HW0
  go_wp2_with fail
  rw [HW3.out]
  go_loopw [11, 12] (fun s11 s12 wr => ∃ k : Nat, k ≤ n ∧ s12 = .int .i64 k ∧ s11 = .int .i64 (sizeUp l k) ∧ Hid (LossSt w wr w1.heap.size (.slice A n c) m (sumFrom (lossLo l m flow u) 0 k) (sumFrom (lossHi l m flow u) 0 k)) ∧ Hid (allFlow l m flow k = true)) (fun _ s12 _ => n - (intOf s12).toNat)
  case atStart => exact ⟨0, Nat.zero_le _, rfl, rfl, LS, rfl⟩
  case round =>
    obtain ⟨k, hk, rfl, rfl, L, haf⟩ := hrel
    have p0 := hole_box L.out.h
    by_cases hltk : k < n
    · have tk : decide (k < n) = true := decide_eq_true hltk
      have zk : (k : Int) < (n : Int) := by omega
      have HK : Hid (k < l.length) := by unfold Hid; rw [HN.out]; exact hltk
      obtain ⟨b, off, rfl, hb, hcc⟩ := HS.out (by rw [HN.out]; omega)
      obtain ⟨c0, c1, c2, c3⟩ := hcc k HK.out
      have d0 := oldCell L.out.b hb c0
      have d1 := oldCell L.out.b hb c1
      have d2 := oldCell L.out.b hb c2
      have d3 := oldCell L.out.b hb c3
      have HLS := Lib.hid (loss_step HG.out m flow u HK.out)
      have HUP := Lib.hid (loss_upto HG.out m flow u k (by have := HK.out; omega))
      have HGR := Lib.hid (fun W => ref03_Gradient (sg l k) m flow W)
      have hst := Lib.hid (sizeUp_step l k)
      have hlo := Lib.hid (up_step (lossLo l m flow u) k)
      have hhi := Lib.hid (up_step (lossHi l m flow u) k)
      have HU2 := Lib.hid (HG.out.ups k (by have := HK.out; omega))
      have HSG := Lib.hid (HG.out.seg (k := k) HK.out)
      have har := (HG.out.fair k HK.out).area0
      have har2 := (HG.out.fair k HK.out).area1
      have hlong := (HG.out.seg (k := k) HK.out).1
      have hlong0 := (HG.out.fair k HK.out).long
      have hab := Lib.hid (above_bound HG.out u HK.out)
      have hse : Hid (segSize (sg l k) = (sg l k).Long * (sg l k).Area) := rfl
      have hd1 : Hid (lossLo l m flow u k = (gradient (sg l k) m flow).1 * (aboveSeg l u k / (sg l k).Area)) := rfl
      have hd2 : Hid (lossHi l m flow u k = (gradient (sg l k) m flow).1 * upDiv (aboveSeg l u k) (sg l k).Area) := rfl
      have hd3 : Hid (aboveSeg l u k = max 0 (min (segSize (sg l k)) (sizeUp l k + segSize (sg l k) - u))) := rfl
      have hd4 : Hid (allFlow l m flow (k + 1) = (allFlow l m flow k && (gradient (sg l k) m flow).2)) := allFlow_step l m flow k
      have hd5 : Hid ((gradient (sg l k) m flow).2 = false → allFlow l m flow l.length = false) := fun h => allFlow_not HK.out h
      have hgr := grad_nonneg (sg l k) m flow
      have hsz := L.out.o.lt
      have hbw : b < wr.heap.size := Nat.lt_of_lt_of_le hb L.out.b.size
      clear hcc c0 c1 c2 c3
      unfold segV mudV at HGR
      rw [hd1.out] at HLS hlo
      rw [hd2.out] at HLS hhi
      generalize gradient (sg l k) m flow = gg at *
      generalize aboveSeg l u k = ab at *
      generalize segSize (sg l k) = SZ at *
      generalize sizeUp l k = SU at *
      generalize sumFrom (lossLo l m flow u) 0 k = LO at *
      generalize sumFrom (lossHi l m flow u) 0 k = HI at *
      generalize (sg l k).Long = lg at *
      generalize (sg l k).Rise = rs at *
      generalize (sg l k).Area = ar at *
      generalize (sg l k).Gap = gp at *
      obtain ⟨g, is⟩ := gg
      obtain ⟨w4, hw4⟩ : ∃ w4, wr.alloc (.cells #[.int .i64 lg, .int .i64 rs, .int .i64 ar, .int .i64 gp] 29) = w4 := ⟨_, rfl⟩
      have hb4 : Below wr.heap.size wr w4 := by rw [← hw4]; exact (Below.refl _ _).alloc (Nat.le_refl _) _
      have BS4 := Lib.hid (show Box w4 wr.heap.size 29 #[.int .i64 lg, .int .i64 rs, .int .i64 ar, .int .i64 gp] by rw [← hw4]; exact Box.new _ _ _ rfl)
      have L4 := Lib.hid (L.out.under hb4)
      have HW4 := Lib.hid hw4
      have hszr := hb4.size
      have hlo1 : w1.heap.size < wr.heap.size := L.out.o.lt
      clear hw4 hb4 L
      cases is
      · simp only [] at HGR
        go_upto_region 9 with fail
        rw [HW4.out]
        obtain ⟨e0, e1, e2, e3⟩ := load_agg4 BS4.out
        obtain ⟨y0, y1⟩ := mud_box L4.out.m
        clear p0 d0 d1 d2 d3
        go_wp2_with fail
        refine (HGR.out _).mono ?_
        rintro e w5 ⟨rfl, hb5⟩
        have L5 := Lib.hid (L4.out.under hb5)
        have C2 := Lib.hid L5.out.r
        have f0 := C2.out.frozen 0
        have f1 := C2.out.frozen 1
        have x0 := (show w5.cell? ⟨w.heap.size + 1 + 1, 0, none⟩ = some (.int .i64 0) from C2.out.cell 0)
        have x1 := (show w5.cell? ⟨w.heap.size + 1 + 1, 1, none⟩ = some (.int .i64 0) from C2.out.cell 1)
        have hs := Lib.hid (hsF.out (by rw [← HN.out]; exact hd5.out (by simp)))
        have HB5 := Lib.hid L5.out.b
        clear hb5 e0 e1 e2 e3 y0 y1
        go_wp2_with fail
        refine bodyPost_ret (results_loss1 rfl _ _ (w.heap.size + 1 + 1) 0 0 false rfl rfl (by simpa using (C2.out.set_ 0 (.int .i64 0)).set_ 1 (.int .i64 0))) rfl ⟨by rw [hs.out], (HB5.out.setCell (p := ⟨w.heap.size + 1 + 1, 0, none⟩) (by simp; omega) _).setCell (p := ⟨w.heap.size + 1 + 1, 1, none⟩) (by simp; omega) _⟩
      · simp only [] at HGR hlo hhi hgr HLS
        obtain ⟨a0, a1, a2, a3, a4, a5, a6, a7⟩ := HLS.out
        obtain ⟨bb0, bb1, bb2, bb3⟩ := HUP.out
        obtain ⟨g0, g1⟩ := hgr
        obtain ⟨u0, u1⟩ := HUB.out
        obtain ⟨_, _, _, _, p1, p2⟩ := HU2.out
        obtain ⟨_, z0, z1⟩ := HSG.out
        obtain ⟨ab0, ab1⟩ := hab.out
        have p3 : 0 ≤ SU := by omega
        have HUPC := Lib.hid (fun w => ref03_up ab ar w ab0 (by omega) har (by omega))
        have hwz : IntKind.i64.wrap (lg * ar) = SZ := by rw [← hse.out]; exact IntWalk.i64_in _ (by omega)
        have hwa : IntKind.i64.wrap (SU + SZ) = SU + SZ := IntWalk.i64_in _ (by omega)
        have hwb : IntKind.i64.wrap (SU + SZ - u) = SU + SZ - u := IntWalk.i64_in _ (by omega)
        go_upto_region 9 with fail
        rw [HW4.out]
        obtain ⟨e0, e1, e2, e3⟩ := load_agg4 BS4.out
        obtain ⟨y0, y1⟩ := mud_box L4.out.m
        clear p0 d0 d1 d2 d3
        go_wp2_with fail
        refine (HGR.out _).mono ?_
        rintro e w5 ⟨rfl, hb5⟩
        have L5 := Lib.hid (L4.out.under hb5)
        have BS5 := Lib.hid (BS4.out.under hb5)
        have hsz5 : w4.heap.size ≤ w5.heap.size := hb5.size
        clear hb5 e0 e1 e2 e3 y0 y1 L4 BS4
        obtain ⟨e0, e1, e2, e3⟩ := load_agg4 BS5.out
        go_upto_region 13 with fail
        go_cut [16] (fun s16 wx => s16 = .int .i64 ab ∧ Hid (w5 = wx))
        case first =>
          go_wp2_with fail
          all_goals (go_meet; exact ⟨by rw [hd3.out]; congr 1; omega, rfl⟩)
        case rest =>
          obtain ⟨rfl, hwc⟩ := hcut
          obtain rfl := hwc.out
          clear hwc hwz hwa hwb
          have hz : (ar == 0) = false := beq_eq_false_iff_ne.2 (by omega)
          have hz2 : ¬ ar = 0 := by omega
          have hwq : IntKind.i64.wrap (ab.tdiv ar) = ab / ar := by rw [Int.tdiv_eq_ediv_of_nonneg ab0]; exact IntWalk.i64_in _ (by omega)
          have hdd : Hid (ab / ar = ab / ar) := rfl
          generalize ab / ar = q at *
          generalize upDiv ab ar = ud at *
          have hwm : IntKind.i64.wrap (g * q) = g * q := IntWalk.i64_in _ (by omega)
          have hwl : IntKind.i64.wrap (LO + g * q) = LO + g * q := IntWalk.i64_in _ (by omega)
          have hwm2 : IntKind.i64.wrap (g * ud) = g * ud := IntWalk.i64_in _ (by omega)
          have hwl2 : IntKind.i64.wrap (HI + g * ud) = HI + g * ud := IntWalk.i64_in _ (by omega)
          have x0 := (show w5.cell? ⟨w1.heap.size, 0, none⟩ = some (.int .i64 LO) from L5.out.o.cell 0)
          have x1 := (show w5.cell? ⟨w1.heap.size, 1, none⟩ = some (.int .i64 HI) from L5.out.o.cell 1)
          have f0 := L5.out.o.frozen 0
          have f1 := L5.out.o.frozen 1
          clear e0 e1 e3
          go_upto_region 14 with fail
          have SS : (fun (f : Bool) (W' : World) => (W'.cell? ⟨wr.heap.size, 2, none⟩ = some (.int .i64 ar) ∧ W'.cell? ⟨w1.heap.size, 1, none⟩ = some (.int .i64 HI)) ∧ (f = false → W'.cell? ⟨w1.heap.size, 0, none⟩ = some (.int .i64 LO))) false w5.drew := ⟨⟨e2, x1⟩, fun _ => x0⟩
          have BD5 := BS5.out.drew
          have OD5 := L5.out.o.drew
          have hne : wr.heap.size ≠ w1.heap.size := by omega
          have TT : (fun (f : Bool) (W' : World) => (W'.cell? ⟨wr.heap.size, 2, none⟩ = some (.int .i64 ar) ∧ W'.cell? ⟨w1.heap.size, 1, none⟩ = some (.int .i64 HI)) ∧ (f = false → W'.cell? ⟨w1.heap.size, 0, none⟩ = some (.int .i64 LO))) true (w5.drew.setCell ⟨w1.heap.size, 0, none⟩ (.int .i64 (LO + g * q))) := ⟨⟨(BD5.far (p := ⟨w1.heap.size, 0, none⟩) hne _).cell 2, (OD5.set_ 0 _).cell 1⟩, fun h => (by cases h)⟩
          have hf1 : (w5.drew.setCell ⟨w1.heap.size, 0, none⟩ (.int .i64 (LO + g * q))).frozen? ⟨w1.heap.size, 1, none⟩ = false := (OD5.set_ 0 _).frozen 1
          have FIN := Lib.hid ((L5.out.under (Below.refl _ w5).drew).put hlt (LO + g * q) (HI + g * ud))
          clear BD5 OD5
          refine AnyMid.begin (q := 19) (S := (fun (f : Bool) (W' : World) => (W'.cell? ⟨wr.heap.size, 2, none⟩ = some (.int .i64 ar) ∧ W'.cell? ⟨w1.heap.size, 1, none⟩ = some (.int .i64 HI)) ∧ (f = false → W'.cell? ⟨w1.heap.size, 0, none⟩ = some (.int .i64 LO)))) (Z := fun i => i == 21) mixed ?_
          refine AnyMid.takeD (fun W' : World => (W'.cell? ⟨wr.heap.size, 2, none⟩ = some (.int .i64 ar) ∧ W'.cell? ⟨w1.heap.size, 1, none⟩ = some (.int .i64 HI)) ∧ W'.cell? ⟨w1.heap.size, 0, none⟩ = some (.int .i64 LO)) 0 70 (v := .pointer (some ⟨w1.heap.size, 0, none⟩)) [21] 12 (by simp) (fun _ h => ⟨h.1, h.2 rfl⟩) (.inl (by decide +kernel)) SS rfl rfl (by decide +kernel) (fun _ _ _ h => h) (Or.inl ⟨by rfl, fun w' hw' => by (obtain ⟨⟨s0, s1⟩, s2⟩ := hw'; go_simp)⟩) ?_
          simp only [List.setIfInBounds_toArray, List.set_cons_zero, List.set_cons_succ]
          refine AnyMid.takeD (fun W' : World => (W'.cell? ⟨wr.heap.size, 2, none⟩ = some (.int .i64 ar) ∧ W'.cell? ⟨w1.heap.size, 1, none⟩ = some (.int .i64 HI)) ∧ W'.cell? ⟨w1.heap.size, 0, none⟩ = some (.int .i64 LO)) 1 71 (v := .int .i64 LO) [21] 12 (by simp) (fun _ h => ⟨h.1, h.2 rfl⟩) (.inl (by decide +kernel)) SS rfl rfl (by decide +kernel) (fun _ _ _ h => h) (Or.inl ⟨by rfl, fun w' hw' => by (obtain ⟨⟨s0, s1⟩, s2⟩ := hw'; go_simp)⟩) ?_
          simp only [List.setIfInBounds_toArray, List.set_cons_zero, List.set_cons_succ]
          refine AnyMid.takeD (fun W' : World => W'.cell? ⟨wr.heap.size, 2, none⟩ = some (.int .i64 ar) ∧ W'.cell? ⟨w1.heap.size, 1, none⟩ = some (.int .i64 HI)) 2 72 (v := .int .i64 g) [21] 12 (by simp) (fun _ h => h.1) (.inr fun _ h => h.1) SS rfl rfl (by decide +kernel) (fun _ _ _ h => h) (Or.inl ⟨by rfl, fun w' hw' => by (obtain ⟨s0, s1⟩ := hw'; go_simp)⟩) ?_
          simp only [List.setIfInBounds_toArray, List.set_cons_zero, List.set_cons_succ]
          refine AnyMid.takeD (fun W' : World => W'.cell? ⟨wr.heap.size, 2, none⟩ = some (.int .i64 ar) ∧ W'.cell? ⟨w1.heap.size, 1, none⟩ = some (.int .i64 HI)) 3 73 (v := .int .i64 ab) [21] 12 (by simp) (fun _ h => h.1) (.inr fun _ h => h.1) SS rfl rfl (by decide +kernel) (fun _ _ _ h => h) (Or.inl ⟨by rfl, fun w' hw' => by (obtain ⟨s0, s1⟩ := hw'; go_simp)⟩) ?_
          simp only [List.setIfInBounds_toArray, List.set_cons_zero, List.set_cons_succ]
          refine AnyMid.takeD (fun W' : World => W'.cell? ⟨wr.heap.size, 2, none⟩ = some (.int .i64 ar) ∧ W'.cell? ⟨w1.heap.size, 1, none⟩ = some (.int .i64 HI)) 4 74 (v := .pointer (some ⟨wr.heap.size, 2, none⟩)) [21] 12 (by simp) (fun _ h => h.1) (.inr fun _ h => h.1) SS rfl rfl (by decide +kernel) (fun _ _ _ h => h) (Or.inl ⟨by rfl, fun w' hw' => by (obtain ⟨s0, s1⟩ := hw'; go_simp)⟩) ?_
          simp only [List.setIfInBounds_toArray, List.set_cons_zero, List.set_cons_succ]
          refine AnyMid.takeD (fun W' : World => W'.cell? ⟨wr.heap.size, 2, none⟩ = some (.int .i64 ar) ∧ W'.cell? ⟨w1.heap.size, 1, none⟩ = some (.int .i64 HI)) 5 75 (v := .int .i64 ar) [21] 12 (by simp) (fun _ h => h.1) (.inr fun _ h => h.1) SS rfl rfl (by decide +kernel) (fun _ _ _ h => h) (Or.inl ⟨by rfl, fun w' hw' => by (obtain ⟨s0, s1⟩ := hw'; go_simp)⟩) ?_
          simp only [List.setIfInBounds_toArray, List.set_cons_zero, List.set_cons_succ]
          refine AnyMid.takeD (fun W' : World => W'.cell? ⟨wr.heap.size, 2, none⟩ = some (.int .i64 ar) ∧ W'.cell? ⟨w1.heap.size, 1, none⟩ = some (.int .i64 HI)) 6 76 (v := .int .i64 q) [21] 12 (by simp) (fun _ h => h.1) (.inr fun _ h => h.1) SS rfl rfl (by decide +kernel) (fun _ _ _ h => h) (Or.inl ⟨by rfl, fun w' hw' => by (obtain ⟨s0, s1⟩ := hw'; go_simp)⟩) ?_
          simp only [List.setIfInBounds_toArray, List.set_cons_zero, List.set_cons_succ]
          refine AnyMid.takeD (fun W' : World => W'.cell? ⟨wr.heap.size, 2, none⟩ = some (.int .i64 ar) ∧ W'.cell? ⟨w1.heap.size, 1, none⟩ = some (.int .i64 HI)) 7 77 (v := .int .i64 (g * q)) [21] 12 (by simp) (fun _ h => h.1) (.inr fun _ h => h.1) SS rfl rfl (by decide +kernel) (fun _ _ _ h => h) (Or.inl ⟨by rfl, fun w' hw' => by (obtain ⟨s0, s1⟩ := hw'; go_simp)⟩) ?_
          simp only [List.setIfInBounds_toArray, List.set_cons_zero, List.set_cons_succ]
          refine AnyMid.takeD (fun W' : World => W'.cell? ⟨wr.heap.size, 2, none⟩ = some (.int .i64 ar) ∧ W'.cell? ⟨w1.heap.size, 1, none⟩ = some (.int .i64 HI)) 8 78 (v := .int .i64 (LO + g * q)) [21] 12 (by simp) (fun _ h => h.1) (.inr fun _ h => h.1) SS rfl rfl (by decide +kernel) (fun _ _ _ h => h) (Or.inl ⟨by rfl, fun w' hw' => by (obtain ⟨s0, s1⟩ := hw'; go_simp)⟩) ?_
          simp only [List.setIfInBounds_toArray, List.set_cons_zero, List.set_cons_succ]
          refine AnyMid.takeD (fun W' : World => W'.cell? ⟨wr.heap.size, 2, none⟩ = some (.int .i64 ar) ∧ W'.cell? ⟨w1.heap.size, 1, none⟩ = some (.int .i64 HI)) 9 79 (v := .pointer (some ⟨w1.heap.size, 1, none⟩)) [21] 12 (by simp) (fun _ h => h.1) (.inr fun _ h => h.1) SS rfl rfl (by decide +kernel) (fun _ _ _ h => h) (Or.inl ⟨by rfl, fun w' hw' => by (obtain ⟨s0, s1⟩ := hw'; go_simp)⟩) ?_
          simp only [List.setIfInBounds_toArray, List.set_cons_zero, List.set_cons_succ]
          refine AnyMid.takeD (fun W' : World => W'.cell? ⟨wr.heap.size, 2, none⟩ = some (.int .i64 ar) ∧ W'.cell? ⟨w1.heap.size, 1, none⟩ = some (.int .i64 HI)) 10 80 (v := .int .i64 HI) [21] 12 (by simp) (fun _ h => h.1) (.inr fun _ h => h.1) SS rfl rfl (by decide +kernel) (fun _ _ _ h => h) (Or.inl ⟨by rfl, fun w' hw' => by (obtain ⟨s0, s1⟩ := hw'; go_simp)⟩) ?_
          simp only [List.setIfInBounds_toArray, List.set_cons_zero, List.set_cons_succ]
          refine AnyMid.takeD (fun W' : World => W'.cell? ⟨wr.heap.size, 2, none⟩ = some (.int .i64 ar) ∧ W'.cell? ⟨w1.heap.size, 1, none⟩ = some (.int .i64 HI)) 11 81 (v := .int .i64 g) [21] 12 (by simp) (fun _ h => h.1) (.inr fun _ h => h.1) SS rfl rfl (by decide +kernel) (fun _ _ _ h => h) (Or.inl ⟨by rfl, fun w' hw' => by (obtain ⟨s0, s1⟩ := hw'; go_simp)⟩) ?_
          simp only [List.setIfInBounds_toArray, List.set_cons_zero, List.set_cons_succ]
          refine AnyMid.takeD (fun W' : World => W'.cell? ⟨wr.heap.size, 2, none⟩ = some (.int .i64 ar) ∧ W'.cell? ⟨w1.heap.size, 1, none⟩ = some (.int .i64 HI)) 12 82 (v := .int .i64 ab) [21] 12 (by simp) (fun _ h => h.1) (.inr fun _ h => h.1) SS rfl rfl (by decide +kernel) (fun _ _ _ h => h) (Or.inl ⟨by rfl, fun w' hw' => by (obtain ⟨s0, s1⟩ := hw'; go_simp)⟩) ?_
          simp only [List.setIfInBounds_toArray, List.set_cons_zero, List.set_cons_succ]
          refine AnyMid.takeD (fun W' : World => W'.cell? ⟨wr.heap.size, 2, none⟩ = some (.int .i64 ar) ∧ W'.cell? ⟨w1.heap.size, 1, none⟩ = some (.int .i64 HI)) 13 83 (v := .pointer (some ⟨wr.heap.size, 2, none⟩)) [21] 12 (by simp) (fun _ h => h.1) (.inr fun _ h => h.1) SS rfl rfl (by decide +kernel) (fun _ _ _ h => h) (Or.inl ⟨by rfl, fun w' hw' => by (obtain ⟨s0, s1⟩ := hw'; go_simp)⟩) ?_
          simp only [List.setIfInBounds_toArray, List.set_cons_zero, List.set_cons_succ]
          refine AnyMid.takeD (fun W' : World => W'.cell? ⟨wr.heap.size, 2, none⟩ = some (.int .i64 ar) ∧ W'.cell? ⟨w1.heap.size, 1, none⟩ = some (.int .i64 HI)) 14 84 (v := .int .i64 ar) [21] 12 (by simp) (fun _ h => h.1) (.inr fun _ h => h.1) SS rfl rfl (by decide +kernel) (fun _ _ _ h => h) (Or.inl ⟨by rfl, fun w' hw' => by (obtain ⟨s0, s1⟩ := hw'; go_simp)⟩) ?_
          simp only [List.setIfInBounds_toArray, List.set_cons_zero, List.set_cons_succ]
          refine AnyMid.takeD (fun W' : World => W'.cell? ⟨wr.heap.size, 2, none⟩ = some (.int .i64 ar) ∧ W'.cell? ⟨w1.heap.size, 1, none⟩ = some (.int .i64 HI)) 18 88 (v := .pointer (some ⟨w1.heap.size, 0, none⟩)) [21] 12 (by simp) (fun _ h => h.1) (.inr fun _ h => h.1) SS rfl rfl (by decide +kernel) (fun _ _ _ h => h) (Or.inl ⟨by rfl, fun w' hw' => by (obtain ⟨s0, s1⟩ := hw'; go_simp)⟩) ?_
          simp only [List.setIfInBounds_toArray, List.set_cons_zero, List.set_cons_succ]
          refine AnyMid.only (i := 15) (by decide +kernel) rfl rfl (fun K hK => ?_)
          go_simp
          refine (HUPC.out _).mono ?_
          rintro e w' ⟨rfl, rfl⟩
          refine hK _ _ (fun _ => SS) ?_
          clear hK
          refine AnyMid.takeD (fun W' : World => W'.cell? ⟨wr.heap.size, 2, none⟩ = some (.int .i64 ar) ∧ W'.cell? ⟨w1.heap.size, 1, none⟩ = some (.int .i64 HI)) 16 86 (v := .int .i64 (g * ud)) [21] 12 (by simp) (fun _ h => h.1) (.inr fun _ h => h.1) SS rfl rfl (by decide +kernel) (fun _ _ _ h => h) (Or.inl ⟨by rfl, fun w' hw' => by (obtain ⟨s0, s1⟩ := hw'; go_simp)⟩) ?_
          simp only [List.setIfInBounds_toArray, List.set_cons_zero, List.set_cons_succ]
          refine AnyMid.takeD (fun W' : World => W'.cell? ⟨wr.heap.size, 2, none⟩ = some (.int .i64 ar) ∧ W'.cell? ⟨w1.heap.size, 1, none⟩ = some (.int .i64 HI)) 17 87 (v := .int .i64 (HI + g * ud)) [21] 12 (by simp) (fun _ h => h.1) (.inr fun _ h => h.1) SS rfl rfl (by decide +kernel) (fun _ _ _ h => h) (Or.inl ⟨by rfl, fun w' hw' => by (obtain ⟨s0, s1⟩ := hw'; go_simp)⟩) ?_
          simp only [List.setIfInBounds_toArray, List.set_cons_zero, List.set_cons_succ]
          refine AnyMid.only (i := 19) (by decide +kernel) rfl rfl (fun K hK => ?_)
          go_simp
          refine hK _ _ (fun _ => TT) ?_
          clear hK
          refine AnyMid.takeD (fun W' : World => W'.cell? ⟨wr.heap.size, 2, none⟩ = some (.int .i64 ar) ∧ W'.cell? ⟨w1.heap.size, 1, none⟩ = some (.int .i64 HI)) 20 89 (v := .pointer (some ⟨w1.heap.size, 1, none⟩)) [21] 12 (by simp) (fun _ h => h.1) (.inr fun _ h => h.1) TT rfl rfl (by decide +kernel) (fun _ _ _ h => h) (Or.inl ⟨by rfl, fun w' hw' => by (obtain ⟨s0, s1⟩ := hw'; go_simp)⟩) ?_
          simp only [List.setIfInBounds_toArray, List.set_cons_zero, List.set_cons_succ]
          refine AnyMid.only (i := 21) (by decide +kernel) rfl rfl (fun K hK => ?_)
          go_simp
          refine hK _ _ (fun h => by cases h) ?_
          clear hK
          refine AnyMid.done (by decide +kernel) ?_
          go_wp2_with fail
          go_roundw
          case rel => exact ⟨k + 1, hltk, by go_num, by rw [hst.out], (by unfold Hid; rw [hlo.out, hhi.out]; exact FIN.out), (by unfold Hid; rw [hd4.out, haf.out]; rfl)⟩
          case measure => simp [intOf]; omega
    · obtain rfl : n = k := by omega
      have tk : decide (n < n) = false := decide_eq_false hltk
      have hs := Lib.hid (hsT.out haf.out)
      have C2 := Lib.hid L.out.r
      have f0 := C2.out.frozen 0
      have f1 := C2.out.frozen 1
      have x0 := (show wr.cell? ⟨w.heap.size + 1 + 1, 0, none⟩ = some (.int .i64 0) from C2.out.cell 0)
      have x1 := (show wr.cell? ⟨w.heap.size + 1 + 1, 1, none⟩ = some (.int .i64 0) from C2.out.cell 1)
      have y0 := (show wr.cell? ⟨w1.heap.size, 0, none⟩ = some (.int .i64 (sumFrom (lossLo l m flow u) 0 n)) from L.out.o.cell 0)
      have y1 := (show wr.cell? ⟨w1.heap.size, 1, none⟩ = some (.int .i64 (sumFrom (lossHi l m flow u) 0 n)) from L.out.o.cell 1)
      have HBW := Lib.hid L.out.b
      clear L
      generalize sumFrom (lossLo l m flow u) 0 n = SLO at *
      generalize sumFrom (lossHi l m flow u) 0 n = SHI at *
      go_wp2_with fail
      refine bodyPost_ret (results_loss1 rfl _ _ (w.heap.size + 1 + 1) SLO SHI true rfl rfl (by simpa using (C2.out.set_ 0 (.int .i64 SLO)).set_ 1 (.int .i64 SHI))) rfl ⟨by rw [hs.out], (HBW.out.setCell (p := ⟨w.heap.size + 1 + 1, 0, none⟩) (by simp; omega) _).setCell (p := ⟨w.heap.size + 1 + 1, 1, none⟩) (by simp; omega) _⟩
end Go.Proofs.Ytgcfplkfclapiaa

/- Arguments opened: gases, muds, segments, slugs, columns, holes. -/
namespace Go.Proofs.Ytgcfplkfclapiaa
open Go.ChangeShapes Go.WideShapes Go.ChangeAt Go.RowKit Go.Deep Mpl

section
variable {H : Type} {enc : TypeId × Value → H} {w : World} {base : Nat} {spare : Nat → Bool} {held : Bool}

theorem two_cells {l : List Value} {a b : Value} (h2 : l.length = 2) (e0 : l[0]? = some a) (e1 : l[1]? = some b) : Value.agg ⟨l⟩ = .agg #[a, b] := by
  match l, h2 with
  | [x0, x1], _ =>
    simp at e0 e1
    rw [e0, e1]
theorem four_cells {l : List Value} {a b c d : Value} (h2 : l.length = 4) (e0 : l[0]? = some a) (e1 : l[1]? = some b) (e2 : l[2]? = some c) (e3 : l[3]? = some d) : Value.agg ⟨l⟩ = .agg #[a, b, c, d] := by
  match l, h2 with
  | [x0, x1, x2, x3], _ =>
    simp at e0 e1 e2 e3
    rw [e0, e1, e2, e3]

def GasNum (g : Gas) : Prop := inI64 g.K ∧ inI64 g.Power
theorem open_gas {v : Value} {d : DataW H} {p : List MemPlace} (hv : ∃ cs, v = .agg cs ∧ cs.size = Try.prog.cellsOf 85) (h : DataW.Trod enc Try.prog w base spare held 85 v d p) :
    ∃ g : Gas, v = gasV g ∧ GasNum g := by
  obtain ⟨cs, rfl, hsz⟩ := hv
  have h2 : cs.size = 2 := hsz.trans (by kernel_rfl)
  obtain ⟨fuel, hf⟩ := h
  obtain ⟨l⟩ := cs
  have hf' : DataW.trod enc Try.prog w base spare held fuel 85 l = some (d, p) := by simpa [Value.cells] using hf
  obtain ⟨n0, e0, i0⟩ := field_i64 Try.underlying85 hf' 0 _ rfl Try.underlying2 (by kernel_rfl)
  obtain ⟨n1, e1, i1⟩ := field_i64 Try.underlying85 hf' 1 _ rfl Try.underlying2 (by kernel_rfl)
  exact ⟨⟨n0, n1⟩, two_cells (by simpa using h2) e0 e1, i0, i1⟩

def MudNum (g : Mud) : Prop := inI64 g.Yield ∧ inI64 g.Visc
theorem open_mud {v : Value} {d : DataW H} {p : List MemPlace} (hv : ∃ cs, v = .agg cs ∧ cs.size = Try.prog.cellsOf 47) (h : DataW.Trod enc Try.prog w base spare held 47 v d p) :
    ∃ g : Mud, v = mudV g ∧ MudNum g := by
  obtain ⟨cs, rfl, hsz⟩ := hv
  have h2 : cs.size = 2 := hsz.trans (by kernel_rfl)
  obtain ⟨fuel, hf⟩ := h
  obtain ⟨l⟩ := cs
  have hf' : DataW.trod enc Try.prog w base spare held fuel 47 l = some (d, p) := by simpa [Value.cells] using hf
  obtain ⟨n0, e0, i0⟩ := field_i64 Try.underlying47 hf' 0 _ rfl Try.underlying2 (by kernel_rfl)
  obtain ⟨n1, e1, i1⟩ := field_i64 Try.underlying47 hf' 1 _ rfl Try.underlying2 (by kernel_rfl)
  exact ⟨⟨n0, n1⟩, two_cells (by simpa using h2) e0 e1, i0, i1⟩

theorem open_slug {v : Value} {d : DataW H} {p : List MemPlace} (hv : ∃ cs, v = .agg cs ∧ cs.size = Try.prog.cellsOf 39) (h : DataW.Trod enc Try.prog w base spare held 39 v d p) :
    ∃ g : Slug, v = slugV g ∧ SlugIn g := by
  obtain ⟨cs, rfl, hsz⟩ := hv
  have h2 : cs.size = 2 := hsz.trans (by kernel_rfl)
  obtain ⟨fuel, hf⟩ := h
  obtain ⟨l⟩ := cs
  have hf' : DataW.trod enc Try.prog w base spare held fuel 39 l = some (d, p) := by simpa [Value.cells] using hf
  obtain ⟨n0, e0, i0⟩ := field_i64 Try.underlying39 hf' 0 _ rfl Try.underlying2 (by kernel_rfl)
  obtain ⟨n1, e1, i1⟩ := field_i64 Try.underlying39 hf' 1 _ rfl Try.underlying2 (by kernel_rfl)
  exact ⟨⟨n0, n1⟩, two_cells (by simpa using h2) e0 e1, i0, i1⟩

theorem open_seg {v : Value} {d : DataW H} {p : List MemPlace} (hv : ∃ cs, v = .agg cs ∧ cs.size = Try.prog.cellsOf 29) (h : DataW.Trod enc Try.prog w base spare held 29 v d p) :
    ∃ g : Seg, v = segV g ∧ SegIn g := by
  obtain ⟨cs, rfl, hsz⟩ := hv
  have h2 : cs.size = 4 := hsz.trans (by kernel_rfl)
  obtain ⟨fuel, hf⟩ := h
  obtain ⟨l⟩ := cs
  have hf' : DataW.trod enc Try.prog w base spare held fuel 29 l = some (d, p) := by simpa [Value.cells] using hf
  obtain ⟨n0, e0, i0⟩ := field_i64 Try.underlying29 hf' 0 _ rfl Try.underlying2 (by kernel_rfl)
  obtain ⟨n1, e1, i1⟩ := field_i64 Try.underlying29 hf' 1 _ rfl Try.underlying2 (by kernel_rfl)
  obtain ⟨n2, e2, i2⟩ := field_i64 Try.underlying29 hf' 2 _ rfl Try.underlying2 (by kernel_rfl)
  obtain ⟨n3, e3, i3⟩ := field_i64 Try.underlying29 hf' 3 _ rfl Try.underlying2 (by kernel_rfl)
  exact ⟨⟨n0, n1, n2, n3⟩, four_cells (by simpa using h2) e0 e1 e2 e3, i0, i1, i2, i3⟩

theorem open_slugs {fuel : Nat} {v : Value} {x : DataW H × List MemPlace} (h : DataW.trod enc Try.prog w base spare held fuel 30 [v] = some x) :
    ∃ A c l, v = .slice A l.length c ∧ l.length ≤ c ∧ c ≤ maxLen ∧ Slugs w w.heap.size A l ∧ SlugsIn l := by
  obtain ⟨A, n, c, hv, hnc, hcm, hs⟩ := slice_cells Try.underlying30 (k := 2) (by kernel_rfl) (by omega) h
  have hx : ∀ i, i < n → ∃ t : Slug, SlugIn t ∧ ∀ b off, A = some ⟨b, off, none⟩ → b < w.heap.size ∧ w.cell? ⟨b, off + i * 2, none⟩ = some (.int .i64 t.Weight) ∧ w.cell? ⟨b, off + i * 2 + 1, none⟩ = some (.int .i64 t.Volume) := fun i hi => by
    obtain ⟨b, off, rfl, hb, m, hm⟩ := hs (by omega)
    obtain ⟨cs, y, hl, hc, hr⟩ := hm i hi
    obtain ⟨n0, e0, i0⟩ := field_i64 Try.underlying39 hr 0 _ rfl Try.underlying2 (by kernel_rfl)
    obtain ⟨n1, e1, i1⟩ := field_i64 Try.underlying39 hr 1 _ rfl Try.underlying2 (by kernel_rfl)
    refine ⟨⟨n0, n1⟩, ⟨i0, i1⟩, fun b' off' he => ?_⟩
    simp at he
    obtain ⟨rfl, rfl⟩ := he
    exact ⟨hb, (hc 0 (by omega)).trans e0, (hc 1 (by omega)).trans e1⟩
  haveI : Inhabited Slug := ⟨⟨0, 0⟩⟩
  obtain ⟨f, hf⟩ := choose_lt (α := Slug) hx
  have hts : ∀ i, i < n → slg ((List.range n).map f) i = f i := fun i hi => by simp [slg, hi]
  refine ⟨A, c, (List.range n).map f, by simpa using hv, by simpa using hnc, hcm, fun h0 => ?_, fun i => ?_⟩
  · have h0' : 0 < n := by simpa using h0
    obtain ⟨b, off, rfl, hb, _⟩ := hs h0'
    refine ⟨b, off, rfl, hb, fun i hi => ?_⟩
    have hi' : i < n := by simpa using hi
    rw [hts i hi']
    exact ((hf i hi').2 b off rfl).2
  · rcases Nat.lt_or_ge i n with hi | hi
    · rw [hts i hi]; exact (hf i hi).1
    · have : slg ((List.range n).map f) i = ⟨0, 0⟩ := by simp [slg, hi]
      rw [this]
      unfold SlugIn inI64
      simp

theorem open_segs {fuel : Nat} {v : Value} {x : DataW H × List MemPlace} (h : DataW.trod enc Try.prog w base spare held fuel 23 [v] = some x) :
    ∃ A c l, v = .slice A l.length c ∧ l.length ≤ c ∧ c ≤ maxLen ∧ Segs w w.heap.size A l ∧ SegsIn l := by
  obtain ⟨A, n, c, hv, hnc, hcm, hs⟩ := slice_cells Try.underlying23 (k := 4) (by kernel_rfl) (by omega) h
  have hx : ∀ i, i < n → ∃ t : Seg, SegIn t ∧ ∀ b off, A = some ⟨b, off, none⟩ → b < w.heap.size ∧ w.cell? ⟨b, off + i * 4, none⟩ = some (.int .i64 t.Long) ∧ w.cell? ⟨b, off + i * 4 + 1, none⟩ = some (.int .i64 t.Rise) ∧
      w.cell? ⟨b, off + i * 4 + 2, none⟩ = some (.int .i64 t.Area) ∧ w.cell? ⟨b, off + i * 4 + 3, none⟩ = some (.int .i64 t.Gap) := fun i hi => by
    obtain ⟨b, off, rfl, hb, m, hm⟩ := hs (by omega)
    obtain ⟨cs, y, hl, hc, hr⟩ := hm i hi
    obtain ⟨n0, e0, i0⟩ := field_i64 Try.underlying29 hr 0 _ rfl Try.underlying2 (by kernel_rfl)
    obtain ⟨n1, e1, i1⟩ := field_i64 Try.underlying29 hr 1 _ rfl Try.underlying2 (by kernel_rfl)
    obtain ⟨n2, e2, i2⟩ := field_i64 Try.underlying29 hr 2 _ rfl Try.underlying2 (by kernel_rfl)
    obtain ⟨n3, e3, i3⟩ := field_i64 Try.underlying29 hr 3 _ rfl Try.underlying2 (by kernel_rfl)
    refine ⟨⟨n0, n1, n2, n3⟩, ⟨i0, i1, i2, i3⟩, fun b' off' he => ?_⟩
    simp at he
    obtain ⟨rfl, rfl⟩ := he
    exact ⟨hb, (hc 0 (by omega)).trans e0, (hc 1 (by omega)).trans e1, (hc 2 (by omega)).trans e2, (hc 3 (by omega)).trans e3⟩
  haveI : Inhabited Seg := ⟨⟨0, 0, 0, 0⟩⟩
  obtain ⟨f, hf⟩ := choose_lt (α := Seg) hx
  have hts : ∀ i, i < n → sg ((List.range n).map f) i = f i := fun i hi => by simp [sg, hi]
  refine ⟨A, c, (List.range n).map f, by simpa using hv, by simpa using hnc, hcm, fun h0 => ?_, fun i => ?_⟩
  · have h0' : 0 < n := by simpa using h0
    obtain ⟨b, off, rfl, hb, _⟩ := hs h0'
    refine ⟨b, off, rfl, hb, fun i hi => ?_⟩
    have hi' : i < n := by simpa using hi
    rw [hts i hi']
    exact ((hf i hi').2 b off rfl).2
  · rcases Nat.lt_or_ge i n with hi | hi
    · rw [hts i hi]; exact (hf i hi).1
    · have : sg ((List.range n).map f) i = ⟨0, 0, 0, 0⟩ := by simp [sg, hi]
      rw [this]
      unfold SegIn inI64
      simp

theorem open_hole {v : Value} {d : DataW H} {p : List MemPlace} (hv : ∃ cs, v = .agg cs ∧ cs.size = Try.prog.cellsOf 25) (h : DataW.Trod enc Try.prog w base spare held 25 v d p) :
    ∃ l, HoleV w w.heap.size v l ∧ SegsIn l ∧ l.length ≤ maxLen := by
  obtain ⟨cs, rfl, hsz⟩ := hv
  have h2 : cs.size = 1 := hsz.trans (by kernel_rfl)
  obtain ⟨fuel, hf⟩ := h
  obtain ⟨l⟩ := cs
  have hf' : DataW.trod enc Try.prog w base spare held fuel 25 l = some (d, p) := by simpa [Value.cells] using hf
  obtain ⟨v0, m0, y0, hv0, hr0⟩ := field_one Try.underlying25 hf' 0 _ rfl (by kernel_rfl) (by simp at h2; simp [h2])
  obtain ⟨A, c, s, rfl, hnc, hcm, hk, hi⟩ := open_segs hr0
  refine ⟨s, ⟨A, c, ?_, hk⟩, hi, by omega⟩
  match l, h2 with
  | [x0], _ =>
    simp at hv0
    rw [hv0]
end

end Go.Proofs.Ytgcfplkfclapiaa
