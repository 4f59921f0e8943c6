/- Several texts in one: Held, Held2, Held3, Held4, SameLine, OwnLine, RefCopy, RefSame, Choose1, Best, Design, MoreLaw, Odo, Choose2, RefChoose. -/
import Derived.Test.YtannipfohicpmaaBase
import Derived.OrdersHeld
import Derived.Deep.RegionHeld3
import Derived.Test.YtannipfohicpmaaEarth3
import Derived.Deep.QuietTactic
import Derived.BigQuiet
import Derived.Test.YtannipfohicpmaaKit
import Derived.Test.YtannipfohicpmaaKitJob
import Derived.Test.YtannipfohicpmaaChoose
import Derived.Test.YtannipfohicpmaaPackRef
import Derived.Test.YtannipfohicpmaaStill
import Derived.Deep.AppendLies
import Derived.Test.YtannipfohicpmaaLawPulls
import Derived.Test.YtannipfohicpmaaLines
import Derived.Laws.EntriesVeiled
import Derived.Deep.DeepCutAuto
/- A region that draws its order, whose last operation writes what the region reads: what holds between the operations need not hold behind that one. -/
namespace Go.Proofs.Ytannipfohicpmaa
open Go.RowKit

section
variable {P : Program} {ops : Array Oper} {Q : Exit → Act → World → Prop} {md : Region.Mode} {S : World → Prop} {z : Nat}

/-- any order from here on; S holds behind each operation but number z -/
def AnyBut (P : Program) (md : Region.Mode) (ops : Array Oper) (Q : Exit → Act → World → Prop) (S : World → Prop) (z : Nat) : Nat → Array Bool → Act → World → Prop
  | 0, b, a, w => Region.ready md ops b = [] ∧ Q .normal a w
  | m + 1, b, a, w => (Region.ready md ops b = [] → Q .normal a w) ∧ ∀ i ∈ Region.ready md ops b, wpOp P ops Q i (fun a' w' => (i ≠ z → S w') ∧ AnyBut P md ops Q S z m (b.setIfInBounds i true) a' w') a w

theorem AnyBut.any : ∀ {m : Nat} {b : Array Bool} {a : Act} {w : World}, AnyBut P md ops Q S z m b a w → wpAny P md ops Q m b a w
  | 0, _, _, _, h => h
  | _ + 1, _, _, _, h => ⟨h.1, fun i hi => wpOp_mono (fun _ _ k => AnyBut.any k.2) (h.2 i hi)⟩

theorem AnyBut.begin {id : Nat} {a : Act} {w : World} (hm : P.follows .mixedOrders = true) (h : AnyBut P .any ops Q S z ops.size (Array.replicate ops.size false) a w.drew) : (Code.region id ops true).wp P Q a w :=
  wp_region_any hm h.any

/-- number z waits for number i -/
def waits (md : Region.Mode) (ops : Array Oper) (z i : Nat) : Bool := match ops[z]? with | some o => o.after.any fun e => Region.binds md e && e.on == i | none => true

theorem waits_spec {i : Nat} {b : Array Bool} (h : waits md ops z i = true) (hz : z ∈ Region.ready md ops b) (hi : b.getD i true = false) : False := by
  obtain ⟨_, o, ho, hall⟩ := mem_ready.1 hz
  simp only [waits, ho, Array.any_eq_true'] at h
  obtain ⟨e, he, hb⟩ := h
  simp only [Bool.and_eq_true, beq_iff_eq] at hb
  have h1 := hall e he hb.1
  rw [hb.2] at h1
  rcases Nat.lt_or_ge i b.size with hl | hl
  · simp [hl] at h1 hi
    rw [h1] at hi
    cases hi
  · simp [Array.getElem?_eq_none hl] at hi

/-- number i, which yields v wherever S holds, may come first -/
theorem AnyBut.first {i : Nat} {o : Oper} {v : Value} (ho : ops[i]? = some o) (hs : ∀ (j : Nat) (o : Oper) cs d, ops[j]? = some o → o.op ≠ .select cs d) (hQ : ∀ c a w, Q (.panic c) (a.put o.dst v) w → Q (.panic c) a w) (hw : waits md ops z i = true) :
    ∀ (m : Nat) (b : Array Bool) (a : Act) (w : World), (∀ j oj, ops[j]? = some oj → j ≠ i → b.getD j true = false → (∀ e ∈ oj.after, Region.binds md e = true → e.on ≠ i) → o.apart ops oj = true) →
      i ∈ Region.ready md ops b → YieldsIf P ops S o v a → S w → AnyBut P md ops Q S z m (b.setIfInBounds i true) (a.put o.dst v) w → AnyBut P md ops Q S z (m + 1) b a w
  | m, b, a, w, hf, hr, hy, hS, H => by
    refine ⟨fun h => (by rw [h] at hr; cases hr), fun j hj => ?_⟩
    have hib : b.getD i true = false := (mem_ready.1 hr).1
    by_cases hji : j = i
    · subst hji
      exact hy.wpOp ho hS ⟨fun _ => hS, H⟩
    · have hjr := ready_mono hj hji
      have hjz : j ≠ z := fun e => by subst e; exact waits_spec hw hj hib
      cases m with
      | zero => rw [H.1] at hjr; cases hjr
      | succ m =>
        obtain ⟨hjb, oj, hoj, hall⟩ := mem_ready.1 hj
        have hno : ∀ e ∈ oj.after, Region.binds md e = true → e.on ≠ i := fun e he hb heq => by
          have h1 := hall e he hb
          rw [heq] at h1
          rcases Nat.lt_or_ge i b.size with hl | hl
          · simp [hl] at h1 hib
            rw [h1] at hib
            cases hib
          · simp [Array.getElem?_eq_none hl] at hib
        have hput := wpOp_putIf hoj (hf j oj hoj hji hjb hno) (fun cs d => hs i o cs d ho) (fun cs d => hs j oj cs d hoj) hQ hy (H.2 j hjr)
        refine wpOp_mono (fun a' w' k => ⟨fun _ => k.2.1 hjz, AnyBut.first ho hs hQ hw m _ a' w' (fun l ol hl hli hlb hn => hf l ol hl hli ?_ hn) (ready_mono hr (Ne.symm hji)) k.1 (k.2.1 hjz) ?_⟩) hput
        · by_cases hjl : j = l
          · subst hjl; exact hjb
          · rwa [getD_set_ne true hjl] at hlb
        · rw [Array.setIfInBounds_comm _ _ hji]
          exact k.2.2

theorem AnyBut.take {i : Nat} {o : Oper} {v : Value} {m : Nat} {b : Array Bool} {a : Act} {w : World} (ho : ops[i]? = some o) (hs : Region.noSelect ops = true) (hf : Region.free md ops b i = true) (hr : (Region.ready md ops b).contains i = true) (hw : waits md ops z i = true)
    (hQ : ∀ c a w, Q (.panic c) (a.put o.dst v) w → Q (.panic c) a w) (hS : S w) (hy : YieldsIf P ops S o v a) (h : AnyBut P md ops Q S z m (b.setIfInBounds i true) (a.put o.dst v) w) : AnyBut P md ops Q S z (m + 1) b a w :=
  AnyBut.first ho (Region.noSelect_spec hs) hQ hw m b a w (Region.free_spec ho hf) (by simpa using hr) hy hS h

/-- just one operation may come up -/
theorem AnyBut.only {i : Nat} {o : Oper} {m : Nat} {b : Array Bool} {a : Act} {w : World} (hr : Region.ready md ops b = [i]) (ho : ops[i]? = some o) (hg : o.guard = none)
    (h : ∀ K : Act → World → Prop, (∀ a' w', (i ≠ z → S w') → AnyBut P md ops Q S z m (b.setIfInBounds i true) a' w' → K a' w') → o.wp P a w K Q) : AnyBut P md ops Q S z (m + 1) b a w :=
  ⟨fun h0 => (by rw [hr] at h0; cases h0), fun j hj => by
    rw [hr, List.mem_singleton] at hj
    subst hj
    unfold wpOp
    simp only [ho]
    rw [if_pos (by simp [Region.wanted, hg])]
    exact .inl (h _ fun a' w' h1 h2 => ⟨h1, h2⟩)⟩

theorem AnyBut.done {b : Array Bool} {a : Act} {w : World} (hr : Region.ready md ops b = []) (h : Q .normal a w) : ∀ {m : Nat}, AnyBut P md ops Q S z m b a w
  | 0 => ⟨hr, h⟩
  | _ + 1 => ⟨fun _ => h, by rw [hr]; simp⟩
theorem AnyBut.gate {m : Nat} {b : Array Bool} {a : Act} {w : World} (h : AnyBut P md ops Q S z m b a w) : AnyBut P md ops Q S z m b a w := h
end

end Go.Proofs.Ytannipfohicpmaa

/- A region that draws its order, whose last operations write what the region reads: what holds between the operations need not hold behind those. -/
namespace Go.Proofs.Ytannipfohicpmaa
open Go.RowKit

section
variable {P : Program} {ops : Array Oper} {Q : Exit → Act → World → Prop} {md : Region.Mode} {S : World → Prop} {Z : Nat → Bool}

/-- any order from here on; S holds behind each operation but those of Z -/
def AnyLate (P : Program) (md : Region.Mode) (ops : Array Oper) (Q : Exit → Act → World → Prop) (S : World → Prop) (Z : Nat → Bool) : Nat → Array Bool → Act → World → Prop
  | 0, b, a, w => Region.ready md ops b = [] ∧ Q .normal a w
  | m + 1, b, a, w => (Region.ready md ops b = [] → Q .normal a w) ∧ ∀ i ∈ Region.ready md ops b, wpOp P ops Q i (fun a' w' => (Z i = false → S w') ∧ AnyLate P md ops Q S Z m (b.setIfInBounds i true) a' w') a w

theorem AnyLate.any : ∀ {m : Nat} {b : Array Bool} {a : Act} {w : World}, AnyLate P md ops Q S Z m b a w → wpAny P md ops Q m b a w
  | 0, _, _, _, h => h
  | _ + 1, _, _, _, h => ⟨h.1, fun i hi => wpOp_mono (fun _ _ k => AnyLate.any k.2) (h.2 i hi)⟩

theorem AnyLate.begin {id : Nat} {a : Act} {w : World} (hm : P.follows .mixedOrders = true) (h : AnyLate P .any ops Q S Z ops.size (Array.replicate ops.size false) a w.drew) : (Code.region id ops true).wp P Q a w :=
  wp_region_any hm h.any

/-- what is done has all done that it waits for -/
def Closed (md : Region.Mode) (ops : Array Oper) (b : Array Bool) : Prop := ∀ j o, ops[j]? = some o → b.getD j true = true → ∀ e ∈ o.after, Region.binds md e = true → b.getD e.on true = true
def closedB (md : Region.Mode) (ops : Array Oper) (b : Array Bool) : Bool := (List.range ops.size).all fun j => match ops[j]? with | some o => !(b.getD j true) || o.after.all (fun e => !(Region.binds md e) || b.getD e.on true) | none => true
theorem closed_of {b : Array Bool} (h : closedB md ops b = true) : Closed md ops b := fun j o ho hj e he hb => by
  unfold closedB at h
  rw [List.all_eq_true] at h
  have hlt : j < ops.size := (Array.getElem?_eq_some_iff.1 ho).1
  have := h j (List.mem_range.2 hlt)
  simp only [ho, hj, Bool.not_true, Bool.false_or, Array.all_eq_true'] at this
  have h2 := this e he
  rw [hb] at h2
  simpa using h2
theorem ready_after {b : Array Bool} {z : Nat} (hz : z ∈ Region.ready md ops b) : ∃ o, ops[z]? = some o ∧ ∀ e ∈ o.after, Region.binds md e = true → b.getD e.on true = true := by
  obtain ⟨_, o, ho, hall⟩ := mem_ready.1 hz
  refine ⟨o, ho, fun e he hb => ?_⟩
  have := hall e he hb
  rcases Nat.lt_or_ge e.on b.size with hl | hl
  · simp [hl] at this ⊢
    exact this
  · simp [hl]
theorem Closed.set {b : Array Bool} {j : Nat} (h : Closed md ops b) (hj : j ∈ Region.ready md ops b) : Closed md ops (b.setIfInBounds j true) := fun i o ho hi e he hb => by
  have up : ∀ k, b.getD k true = true → (b.setIfInBounds j true).getD k true = true := fun k hk => by
    by_cases hjk : j = k
    · subst hjk
      rcases Nat.lt_or_ge j b.size with hl | hl
      · simp [hl]
      · simp [hl]
    · rwa [getD_set_ne true hjk]
  by_cases hij : j = i
  · subst hij
    obtain ⟨o', ho', h2⟩ := ready_after hj
    rw [ho] at ho'
    injection ho' with ho'
    subst ho'
    exact up _ (h2 e he hb)
  · rw [getD_set_ne true hij] at hi
    exact up _ (h i o ho hi e he hb)
/-- number z waits for number i, by n others at most -/
def waitsN (md : Region.Mode) (ops : Array Oper) : Nat → Nat → Nat → Bool
  | 0, z, i => match ops[z]? with | some o => o.after.any (fun e => Region.binds md e && e.on == i) | none => false
  | n + 1, z, i => match ops[z]? with | some o => o.after.any (fun e => Region.binds md e && (e.on == i || waitsN md ops n e.on i)) | none => false
theorem done_waits {b : Array Bool} (hc : Closed md ops b) (n : Nat) : ∀ z i, b.getD z true = true → waitsN md ops n z i = true → b.getD i true = true := by
  induction n with
  | zero =>
    intro z i hz h
    unfold waitsN at h
    cases ho : ops[z]? with
    | none => simp [ho] at h
    | some o =>
      simp only [ho, Array.any_eq_true'] at h
      obtain ⟨e, he, h⟩ := h
      simp only [Bool.and_eq_true, beq_iff_eq] at h
      rw [← h.2]
      exact hc z o ho hz e he h.1
  | succ n ih =>
    intro z i hz h
    unfold waitsN at h
    cases ho : ops[z]? with
    | none => simp [ho] at h
    | some o =>
      simp only [ho, Array.any_eq_true'] at h
      obtain ⟨e, he, h⟩ := h
      simp only [Bool.and_eq_true, Bool.or_eq_true, beq_iff_eq] at h
      have hd := hc z o ho hz e he h.1
      rcases h.2 with h2 | h2
      · rw [← h2]; exact hd
      · exact ih _ _ hd h2
theorem ready_waits {b : Array Bool} (hc : Closed md ops b) (n : Nat) {z i : Nat} (hz : z ∈ Region.ready md ops b) (h : waitsN md ops n z i = true) : b.getD i true = true := by
  obtain ⟨o, ho, ha⟩ := ready_after hz
  cases n with
  | zero =>
    unfold waitsN at h
    simp only [ho, Array.any_eq_true'] at h
    obtain ⟨e, he, h⟩ := h
    simp only [Bool.and_eq_true, beq_iff_eq] at h
    rw [← h.2]
    exact ha e he h.1
  | succ n =>
    unfold waitsN at h
    simp only [ho, Array.any_eq_true'] at h
    obtain ⟨e, he, h⟩ := h
    simp only [Bool.and_eq_true, Bool.or_eq_true, beq_iff_eq] at h
    rcases h.2 with h2 | h2
    · rw [← h2]; exact ha e he h.1
    · exact done_waits hc n _ _ (ha e he h.1) h2

theorem AnyLate.first {i : Nat} {o : Oper} {v : Value} (ho : ops[i]? = some o) (hs : ∀ (j : Nat) (o : Oper) cs d, ops[j]? = some o → o.op ≠ .select cs d) (hQ : ∀ c a w, Q (.panic c) (a.put o.dst v) w → Q (.panic c) a w) {nf : Nat} (hw : ∀ z, Z z = true → waitsN md ops nf z i = true) :
    ∀ (m : Nat) (b : Array Bool) (a : Act) (w : World), Closed md ops b → (∀ j oj, ops[j]? = some oj → j ≠ i → b.getD j true = false → (∀ e ∈ oj.after, Region.binds md e = true → e.on ≠ i) → o.apart ops oj = true) →
      i ∈ Region.ready md ops b → YieldsIf P ops S o v a → S w → AnyLate P md ops Q S Z m (b.setIfInBounds i true) (a.put o.dst v) w → AnyLate P md ops Q S Z (m + 1) b a w
  | m, b, a, w, hc, hf, hr, hy, hS, H => by
    refine ⟨fun h => (by rw [h] at hr; cases hr), fun j hj => ?_⟩
    have hib : b.getD i true = false := (mem_ready.1 hr).1
    by_cases hji : j = i
    · subst hji
      exact hy.wpOp ho hS ⟨fun _ => hS, H⟩
    · have hjr := ready_mono hj hji
      have hjz : Z j = false := by
        cases e : Z j with
        | false => rfl
        | true => rw [ready_waits hc nf hj (hw j e)] at hib; cases hib
      cases m with
      | zero => rw [H.1] at hjr; cases hjr
      | succ m =>
        obtain ⟨hjb, oj, hoj, hall⟩ := mem_ready.1 hj
        have hno : ∀ e ∈ oj.after, Region.binds md e = true → e.on ≠ i := fun e he hb heq => by
          have h1 := hall e he hb
          rw [heq] at h1
          rcases Nat.lt_or_ge i b.size with hl | hl
          · simp [hl] at h1 hib
            rw [h1] at hib
            cases hib
          · simp [Array.getElem?_eq_none hl] at hib
        have hput := wpOp_putIf hoj (hf j oj hoj hji hjb hno) (fun cs d => hs i o cs d ho) (fun cs d => hs j oj cs d hoj) hQ hy (H.2 j hjr)
        refine wpOp_mono (fun a' w' k => ⟨fun _ => k.2.1 hjz, AnyLate.first ho hs hQ hw m _ a' w' (hc.set hj) (fun l ol hl hli hlb hn => hf l ol hl hli ?_ hn) (ready_mono hr (Ne.symm hji)) k.1 (k.2.1 hjz) ?_⟩) hput
        · by_cases hjl : j = l
          · subst hjl; exact hjb
          · rwa [getD_set_ne true hjl] at hlb
        · rw [Array.setIfInBounds_comm _ _ hji]
          exact k.2.2

theorem AnyLate.take {i : Nat} {o : Oper} {v : Value} {m : Nat} {b : Array Bool} {a : Act} {w : World} (zs : List Nat) (nf : Nat) (hz : ∀ z, Z z = true → z ∈ zs) (ho : ops[i]? = some o) (hs : Region.noSelect ops = true) (hf : Region.free md ops b i = true) (hr : (Region.ready md ops b).contains i = true) (hw : zs.all (fun z => waitsN md ops nf z i) = true) (hc : closedB md ops b = true)
    (hQ : ∀ c a w, Q (.panic c) (a.put o.dst v) w → Q (.panic c) a w) (hS : S w) (hy : YieldsIf P ops S o v a) (h : AnyLate P md ops Q S Z m (b.setIfInBounds i true) (a.put o.dst v) w) : AnyLate P md ops Q S Z (m + 1) b a w :=
  AnyLate.first ho (Region.noSelect_spec hs) hQ (fun z h => List.all_eq_true.1 hw z (hz z h)) m b a w (closed_of hc) (Region.free_spec ho hf) (by simpa using hr) hy hS h

theorem AnyLate.done {b : Array Bool} {a : Act} {w : World} (hr : Region.ready md ops b = []) (h : Q .normal a w) : ∀ {m : Nat}, AnyLate P md ops Q S Z m b a w
  | 0 => ⟨hr, h⟩
  | _ + 1 => ⟨fun _ => h, by rw [hr]; simp⟩
/-- just one operation may come up, one of Z -/
theorem AnyLate.only {i : Nat} {o : Oper} {m : Nat} {b : Array Bool} {a : Act} {w : World} (hr : Region.ready md ops b = [i]) (ho : ops[i]? = some o) (hg : o.guard = none) (hZ : Z i = true)
    (h : ∀ K : Act → World → Prop, (∀ a' w', AnyLate P md ops Q S Z m (b.setIfInBounds i true) a' w' → K a' w') → o.wp P a w K Q) : AnyLate P md ops Q S Z (m + 1) b a w :=
  ⟨fun h0 => (by rw [hr] at h0; cases h0), fun j hj => by
    rw [hr, List.mem_singleton] at hj
    subst hj
    unfold wpOp
    simp only [ho]
    rw [if_pos (by simp [Region.wanted, hg])]
    exact .inl (h _ fun a' w' h1 => ⟨fun e => (by rw [hZ] at e; cases e), h1⟩)⟩
/-- one of two operations may come up, both of Z -/
theorem AnyLate.pair {i j : Nat} {o o' : Oper} {m : Nat} {b : Array Bool} {a : Act} {w : World} (hr : Region.ready md ops b = [i, j]) (ho : ops[i]? = some o) (hg : o.guard = none) (hZ : Z i = true) (ho' : ops[j]? = some o') (hg' : o'.guard = none) (hZ' : Z j = true)
    (h : ∀ K : Act → World → Prop, (∀ a' w', AnyLate P md ops Q S Z m (b.setIfInBounds i true) a' w' → K a' w') → o.wp P a w K Q) (h' : ∀ K : Act → World → Prop, (∀ a' w', AnyLate P md ops Q S Z m (b.setIfInBounds j true) a' w' → K a' w') → o'.wp P a w K Q) : AnyLate P md ops Q S Z (m + 1) b a w :=
  ⟨fun h0 => (by rw [hr] at h0; cases h0), fun l hl => by
    rw [hr] at hl
    simp only [List.mem_cons, List.not_mem_nil, or_false] at hl
    rcases hl with rfl | rfl
    · unfold wpOp
      simp only [ho]
      rw [if_pos (by simp [Region.wanted, hg])]
      exact .inl (h _ fun a' w' h1 => ⟨fun e => (by rw [hZ] at e; cases e), h1⟩)
    · unfold wpOp
      simp only [ho']
      rw [if_pos (by simp [Region.wanted, hg'])]
      exact .inl (h' _ fun a' w' h1 => ⟨fun e => (by rw [hZ'] at e; cases e), h1⟩)⟩
end

end Go.Proofs.Ytannipfohicpmaa

/- A region that draws its order, with a store in its midst and one at its end: what holds before the store need not hold behind it. -/
namespace Go.Proofs.Ytannipfohicpmaa
open Go.RowKit

section
variable {P : Program} {ops : Array Oper} {Q : Exit → Act → World → Prop} {md : Region.Mode} {q : Nat} {S : Bool → World → Prop} {Z : Nat → Bool}

/-- any order from here on; S, told whether q is done, holds behind each operation but those of Z -/
def AnyMid (P : Program) (md : Region.Mode) (ops : Array Oper) (Q : Exit → Act → World → Prop) (q : Nat) (S : Bool → World → Prop) (Z : Nat → Bool) : Nat → Array Bool → Act → World → Prop
  | 0, b, a, w => Region.ready md ops b = [] ∧ Q .normal a w
  | m + 1, b, a, w => (Region.ready md ops b = [] → Q .normal a w) ∧ ∀ i ∈ Region.ready md ops b, wpOp P ops Q i (fun a' w' => (Z i = false → S ((b.setIfInBounds i true).getD q true) w') ∧ AnyMid P md ops Q q S Z m (b.setIfInBounds i true) a' w') a w

theorem AnyMid.any : ∀ {m : Nat} {b : Array Bool} {a : Act} {w : World}, AnyMid P md ops Q q S Z m b a w → wpAny P md ops Q m b a w
  | 0, _, _, _, h => h
  | _ + 1, _, _, _, h => ⟨h.1, fun i hi => wpOp_mono (fun _ _ k => AnyMid.any k.2) (h.2 i hi)⟩

theorem AnyMid.begin {id : Nat} {a : Act} {w : World} (hm : P.follows .mixedOrders = true) (h : AnyMid P .any ops Q q S Z ops.size (Array.replicate ops.size false) a w.drew) : (Code.region id ops true).wp P Q a w :=
  wp_region_any hm h.any

theorem AnyMid.first {T : World → Prop} {i : Nat} {o : Oper} {v : Value} (ho : ops[i]? = some o) (hs : ∀ (j : Nat) (o : Oper) cs d, ops[j]? = some o → o.op ≠ .select cs d) (hQ : ∀ c a w, Q (.panic c) (a.put o.dst v) w → Q (.panic c) a w) {nf : Nat} (hw : ∀ z, Z z = true → waitsN md ops nf z i = true) (hiq : i ≠ q)
    (h0 : ∀ w, S false w → T w) (h1 : waitsN md ops nf q i = true ∨ ∀ w, S true w → T w) :
    ∀ (m : Nat) (b : Array Bool) (a : Act) (w : World), Closed md ops b → (∀ j oj, ops[j]? = some oj → j ≠ i → b.getD j true = false → (∀ e ∈ oj.after, Region.binds md e = true → e.on ≠ i) → o.apart ops oj = true) →
      i ∈ Region.ready md ops b → YieldsIf P ops T o v a → S (b.getD q true) w → AnyMid P md ops Q q S Z m (b.setIfInBounds i true) (a.put o.dst v) w → AnyMid P md ops Q q S Z (m + 1) b a w
  | m, b, a, w, hc, hf, hr, hy, hS, H => by
    refine ⟨fun h => (by rw [h] at hr; cases hr), fun j hj => ?_⟩
    have hib : b.getD i true = false := (mem_ready.1 hr).1
    have hT : T w := by
      cases e : b.getD q true with
      | false => rw [e] at hS; exact h0 _ hS
      | true =>
        rcases h1 with h1 | h1
        · rw [done_waits hc nf _ _ e h1] at hib; cases hib
        · rw [e] at hS; exact h1 _ hS
    by_cases hji : j = i
    · subst hji
      refine hy.wpOp ho hT ⟨fun _ => ?_, H⟩
      rw [getD_set_ne true hiq]
      exact hS
    · have hjr := ready_mono hj hji
      have hjz : Z j = false := by
        cases e : Z j with
        | false => rfl
        | true => rw [ready_waits hc nf hj (hw j e)] at hib; cases hib
      cases m with
      | zero => rw [H.1] at hjr; cases hjr
      | succ m =>
        obtain ⟨hjb, oj, hoj, hall⟩ := mem_ready.1 hj
        have hno : ∀ e ∈ oj.after, Region.binds md e = true → e.on ≠ i := fun e he hb heq => by
          have h1 := hall e he hb
          rw [heq] at h1
          rcases Nat.lt_or_ge i b.size with hl | hl
          · simp [hl] at h1 hib
            rw [h1] at hib
            cases hib
          · simp [Array.getElem?_eq_none hl] at hib
        have hput := wpOp_putIf hoj (hf j oj hoj hji hjb hno) (fun cs d => hs i o cs d ho) (fun cs d => hs j oj cs d hoj) hQ hy (H.2 j hjr)
        have hk : ∀ w', S (((b.setIfInBounds i true).setIfInBounds j true).getD q true) w' → S ((b.setIfInBounds j true).getD q true) w' := fun w' h => by
          rw [Array.setIfInBounds_comm _ _ (Ne.symm hji), getD_set_ne true hiq] at h
          exact h
        refine wpOp_mono (fun a' w' k => ⟨fun _ => hk _ (k.2.1 hjz), AnyMid.first ho hs hQ hw hiq h0 h1 m _ a' w' (hc.set hj) (fun l ol hl hli hlb hn => hf l ol hl hli ?_ hn) (ready_mono hr (Ne.symm hji)) k.1 (hk _ (k.2.1 hjz)) ?_⟩) hput
        · by_cases hjl : j = l
          · subst hjl; exact hjb
          · rwa [getD_set_ne true hjl] at hlb
        · rw [Array.setIfInBounds_comm _ _ hji]
          exact k.2.2

/-- number i, for which q and the last ones wait: what it reads stands before q -/
theorem AnyMid.take (T : World → Prop) {i : Nat} {o : Oper} {v : Value} {m : Nat} {b : Array Bool} {a : Act} {w : World} (zs : List Nat) (nf : Nat) (hz : ∀ z, Z z = true → z ∈ zs) (h0 : ∀ w, S false w → T w) (h1 : waitsN md ops nf q i = true ∨ ∀ w, S true w → T w) (hS : S (b.getD q true) w) (ho : ops[i]? = some o)
    (hk : (Region.noSelect ops && Region.free md ops b i && (Region.ready md ops b).contains i && zs.all (fun z => waitsN md ops nf z i) && closedB md ops b && !(i == q)) = true)
    (hQ : ∀ c a w, Q (.panic c) (a.put o.dst v) w → Q (.panic c) a w) (hy : YieldsIf P ops T o v a) (h : AnyMid P md ops Q q S Z m (b.setIfInBounds i true) (a.put o.dst v) w) : AnyMid P md ops Q q S Z (m + 1) b a w := by
  simp only [Bool.and_eq_true] at hk
  obtain ⟨⟨⟨⟨⟨k1, k2⟩, k3⟩, k4⟩, k5⟩, k6⟩ := hk
  exact AnyMid.first ho (Region.noSelect_spec k1) hQ (fun z h => List.all_eq_true.1 k4 z (hz z h)) (by simpa using k6) h0 h1 m b a w (closed_of k5) (Region.free_spec ho k2) (by simpa using k3) hy hS h

theorem AnyMid.done {b : Array Bool} {a : Act} {w : World} (hr : Region.ready md ops b = []) (h : Q .normal a w) : ∀ {m : Nat}, AnyMid P md ops Q q S Z m b a w
  | 0 => ⟨hr, h⟩
  | _ + 1 => ⟨fun _ => h, by rw [hr]; simp⟩
/-- just one operation may come up -/
theorem AnyMid.only {i : Nat} {o : Oper} {m : Nat} {b : Array Bool} {a : Act} {w : World} (hr : Region.ready md ops b = [i]) (ho : ops[i]? = some o) (hg : o.guard = none)
    (h : ∀ K : Act → World → Prop, (∀ a' w', (Z i = false → S ((b.setIfInBounds i true).getD q true) w') → AnyMid P md ops Q q S Z m (b.setIfInBounds i true) a' w' → K a' w') → o.wp P a w K Q) : AnyMid P md ops Q q S Z (m + 1) b a w :=
  ⟨fun h0 => (by rw [hr] at h0; cases h0), fun j hj => by
    rw [hr, List.mem_singleton] at hj
    subst hj
    unfold wpOp
    simp only [ho]
    rw [if_pos (by simp [Region.wanted, hg])]
    exact .inl (h _ fun a' w' h1 h2 => ⟨h1, h2⟩)⟩
end

end Go.Proofs.Ytannipfohicpmaa

/- A region that draws its order: one operation taken first, its slot named, so that the frame does not grow. -/
namespace Go.Proofs.Ytannipfohicpmaa
open Go.RowKit

section
variable {P : Program} {ops : Array Oper} {Q : Exit → Act → World → Prop} {md : Region.Mode}
theorem AnyBut.takeD {S : World → Prop} {z : Nat} (i t : Nat) {o : Oper} {v : Value} {m : Nat} {b : Array Bool} {tm : Array Value} {de : List Deferred} {w : World} (ho : ops[i]? = some o) (hd : o.dst = some t) (hk : (Region.noSelect ops && Region.free md ops b i && (Region.ready md ops b).contains i && waits md ops z i) = true)
    (hQ : ∀ c a w, Q (.panic c) (a.put o.dst v) w → Q (.panic c) a w) (hS : S w) (hy : YieldsIf P ops S o v ⟨tm, de⟩) (h : AnyBut P md ops Q S z m (b.setIfInBounds i true) ⟨tm.setIfInBounds t v, de⟩ w) : AnyBut P md ops Q S z (m + 1) b ⟨tm, de⟩ w := by
  simp only [Bool.and_eq_true] at hk
  obtain ⟨⟨⟨k1, k2⟩, k3⟩, k4⟩ := hk
  refine AnyBut.take ho k1 k2 k3 k4 hQ hS hy ?_
  rw [hd]
  exact h
/-- one of two operations may come up -/
theorem AnyBut.two {S : World → Prop} {z : Nat} (i j : Nat) {o o' : Oper} {m : Nat} {b : Array Bool} {a : Act} {w : World} (hr : Region.ready md ops b = [i, j]) (ho : ops[i]? = some o) (hg : o.guard = none) (ho' : ops[j]? = some o') (hg' : o'.guard = none)
    (h : ∀ K : Act → World → Prop, (∀ a' w', (i ≠ z → S w') → AnyBut P md ops Q S z m (b.setIfInBounds i true) a' w' → K a' w') → o.wp P a w K Q)
    (h' : ∀ K : Act → World → Prop, (∀ a' w', (j ≠ z → S w') → AnyBut P md ops Q S z m (b.setIfInBounds j true) a' w' → K a' w') → o'.wp P a w K Q) : AnyBut P md ops Q S z (m + 1) b a w :=
  ⟨fun h0 => (by rw [hr] at h0; cases h0), fun l hl => by
    rw [hr] at hl
    simp only [List.mem_cons, List.not_mem_nil, or_false] at hl
    rcases hl with rfl | rfl
    · unfold wpOp
      simp only [ho]
      rw [if_pos (by simp [Region.wanted, hg])]
      exact .inl (h _ fun a' w' h1 h2 => ⟨h1, h2⟩)
    · unfold wpOp
      simp only [ho']
      rw [if_pos (by simp [Region.wanted, hg'])]
      exact .inl (h' _ fun a' w' h1 h2 => ⟨h1, h2⟩)⟩
theorem AnyMid.takeD {q : Nat} {S : Bool → World → Prop} {Z : Nat → Bool} (T : World → Prop) (i t : Nat) {o : Oper} {v : Value} {m : Nat} {b : Array Bool} {tm : Array Value} {de : List Deferred} {w : World} (zs : List Nat) (nf : Nat) (hz : ∀ z, Z z = true → z ∈ zs) (h0 : ∀ w, S false w → T w) (h1 : waitsN md ops nf q i = true ∨ ∀ w, S true w → T w) (hS : S (b.getD q true) w) (ho : ops[i]? = some o) (hd : o.dst = some t)
    (hk : (Region.noSelect ops && Region.free md ops b i && (Region.ready md ops b).contains i && zs.all (fun z => waitsN md ops nf z i) && closedB md ops b && !(i == q)) = true)
    (hQ : ∀ c a w, Q (.panic c) (a.put o.dst v) w → Q (.panic c) a w) (hy : YieldsIf P ops T o v ⟨tm, de⟩) (h : AnyMid P md ops Q q S Z m (b.setIfInBounds i true) ⟨tm.setIfInBounds t v, de⟩ w) : AnyMid P md ops Q q S Z (m + 1) b ⟨tm, de⟩ w := by
  refine AnyMid.take T zs nf hz h0 h1 hS ho hk hQ hy ?_
  rw [hd]
  exact h
end

end Go.Proofs.Ytannipfohicpmaa

/- Walks of the reference of layer 2: two lines alike. -/
namespace Mpl
instance : DecidableEq Knot := fun a b => decidable_of_iff (a.At = b.At ∧ a.V = b.V) (by cases a; cases b; simp)
theorem knot_step {x y : List Knot} {k : Nat} (hx : k < x.length) (hy : k < y.length) : (x.drop k = y.drop k) ↔ ((kn x k).At = (kn y k).At ∧ (kn x k).V = (kn y k).V ∧ x.drop (k + 1) = y.drop (k + 1)) := by
  have e1 : kn x k = x[k] := by simp [kn, hx]
  have e2 : kn y k = y[k] := by simp [kn, hy]
  rw [List.drop_eq_getElem_cons hx, List.drop_eq_getElem_cons hy, e1, e2, List.cons_eq_cons]
  have : ∀ a b : Knot, a = b ↔ a.At = b.At ∧ a.V = b.V := fun a b => by cases a; cases b; simp
  rw [this, and_assoc]
end Mpl
namespace Go.Proofs.Ytannipfohicpmaa
open Go.RowKit Go.Shelf Mpl

theorem run_neq_knot (x0 x1 y0 y1 : Int) (w : World) : (binOp .neq 71 (.agg #[.int .i64 x0, .int .i64 x1]) (.agg #[.int .i64 y0, .int .i64 y1])).run Try.prog w = .ok (.bool !(x0 == y0 && x1 == y1)) w := by
  have u3 := Try.underlying2
  have a3 := Try.isAgg2
  have z3 := Try.sizeOf2
  have hS : Try.prog.underlying 71 = some (.struct (Try.prog.fieldsOf 71)) := by kernel_rfl
  have hp : Try.prog.stoodInHeld 71 = false := by kernel_rfl
  rw [run_neq_struct, show (10000 : Nat) = 9999 + 1 from rfl, run_equalIn_agg w 9999 71 _ _ hS hp]
  simp only [Program.fieldsOf, Try.underlying71]
  go_simp
  by_cases h1 : x0 = y0 <;> by_cases h2 : x1 = y1 <;> simp [h1, h2]

set_option maxHeartbeats 4000000 in
theorem ref02_SameLine (x y : List Knot) (v0 v1 : Value) (w : World) (hx0 : LineV w w.heap.size v0 x) (hy0 : LineV w w.heap.size v1 y) (hnx : x.length ≤ 1000) (hny : y.length ≤ 1000) :
    Calls Try.prog 64 #[v0, v1] w fun e w' => e = .returned (.bool (decide (x = y))) ∧ Below w.heap.size w w' := by
  obtain ⟨A, c, rfl, hx⟩ := hx0
  obtain ⟨B, d, rfl, hy⟩ := hy0
  have HX := Lib.hid hx
  have HY := Lib.hid hy
  have hst := Lib.hid (fun k => knot_step (x := x) (y := y) (k := k))
  have hnq := run_neq_knot
  generalize hres : decide (x = y) = res
  have HR := Lib.hid hres
  clear hx hy hres
  generalize hn0 : x.length = n0 at *
  generalize hn1 : y.length = n1 at *
  have HN0 := Lib.hid hn0
  have HN1 := Lib.hid hn1
  clear hn0 hn1
  obtain ⟨w0, hw0⟩ : ∃ w0, (w.alloc (.cells #[.slice A n0 c] 24)).alloc (.cells #[.slice B n1 d] 24) = w0 := ⟨_, rfl⟩
  have BX0 := Lib.hid (show Box w0 w.heap.size 24 #[.slice A n0 c] by rw [← hw0]; exact (Box.new w _ _ rfl).alloc _)
  have BY0 := Lib.hid (show Box w0 (w.heap.size + 1) 24 #[.slice B n1 d] by rw [← hw0]; exact Box.new _ _ _ (by simp))
  have HB0 := Lib.hid (show Below w.heap.size w w0 by rw [← hw0]; exact (by repeat (first | exact Below.refl _ _ | assumption | refine Below.setCell ?_ (by first | (simp; done) | (simp; omega)) _ | refine belowDrewN ?_ _ | refine Below.drew ?_ | refine Below.alloc ?_ (by first | (simp; done) | (simp; omega)) _)))
  have HW0 := Lib.hid hw0
  clear hw0
  go_enter Try.func64, Try.ntmps64
  go_wp2_with fail
  rw [HW0.out]
  go_loopw [5] (fun s5 wr => ∃ k : Nat, k ≤ n0 ∧ k ≤ n1 ∧ s5 = .int .i64 k ∧ Hid (decide (x.drop k = y.drop k) = res) ∧ Hid (Below w0.heap.size w0 wr)) (fun s5 _ => n0 - (intOf s5).toNat)
  case atStart => exact ⟨0, Nat.zero_le _, Nat.zero_le _, rfl, HR, Below.refl _ _⟩
  case round =>
    obtain ⟨k, hk0, hk1, rfl, hr, BW0⟩ := hrel
    have BW := Lib.hid (HB0.out.trans (BW0.out.mono HB0.out.size))
    have x0 : wr.cell? ⟨w.heap.size, 0, none⟩ = some (.slice A n0 c) := (BX0.out.under BW0.out).cell 0
    have x1 : wr.cell? ⟨w.heap.size + 1, 0, none⟩ = some (.slice B n1 d) := (BY0.out.under BW0.out).cell 0
    have l0 := (BX0.out.under BW0.out).lt
    have l1 := (BY0.out.under BW0.out).lt
    by_cases h0 : k < n0
    · have t0 : decide (k < n0) = true := decide_eq_true h0
      by_cases h1 : k < n1
      · have t1 : decide (k < n1) = true := decide_eq_true h1
        have hs := Lib.hid (hst.out k h0 h1)
        obtain ⟨ab, ao, rfl, hab, hac⟩ := Knots.out HX.out (by rw [HN0.out]; omega)
        obtain ⟨bb, bo, rfl, hbb, hbc⟩ := Knots.out HY.out (by rw [HN1.out]; omega)
        obtain ⟨c0, c1⟩ : _ ∧ _ := hac k (by rw [HN0.out]; exact h0)
        obtain ⟨e0, e1⟩ := hbc k (by rw [HN1.out]; exact h1)
        replace c0 := oldCell BW.out hab c0
        replace c1 := oldCell BW.out hab c1
        replace e0 := oldCell BW.out hbb e0
        replace e1 := oldCell BW.out hbb e1
        have z1 : (k : Int) < (n0 : Int) := by omega
        have z2 : (k : Int) < (n1 : Int) := by omega
        have z3 : (0 : Int) ≤ (k : Int) := by omega
        clear hac hbc
        generalize (kn x k).At = a0 at *
        generalize (kn x k).V = a1 at *
        generalize (kn y k).At = b0 at *
        generalize (kn y k).V = b1 at *
        by_cases hq : a0 = b0 ∧ a1 = b1
        · have hq' : (!(a0 == b0 && a1 == b1)) = false := by simp [hq]
          have hn : Hid (decide (x.drop (k + 1) = y.drop (k + 1)) = res) := by unfold Hid; rw [← hr.out]; exact decide_eq_decide.2 ⟨fun h => hs.out.2 ⟨hq.1, hq.2, h⟩, fun h => (hs.out.1 h).2.2⟩
          clear hq
          go_wp2_with fail
          go_quiet (fail)
          go_wp2_with fail
          go_roundw
          case rel => exact ⟨k + 1, h0, h1, by go_num, hn, belowDrewN BW0.out _⟩
          case measure => simp [intOf]; omega
        · have hq' : (!(a0 == b0 && a1 == b1)) = true := by
            simp only [Bool.not_eq_true', Bool.and_eq_false_iff, beq_eq_false_iff_ne]
            omega
          have hf : Hid (false = res) := by unfold Hid; rw [← hr.out]; exact (decide_eq_false fun h => hq ⟨(hs.out.1 h).1, (hs.out.1 h).2.1⟩).symm
          clear hq
          go_wp2_with fail
          go_quiet (fail)
          go_wp2_with fail
          go_ret
          exact ⟨ret_bool hf.out, belowDrewN BW.out _⟩
      · obtain rfl : k = n1 := by omega
        have t1 : decide (k < k) = false := decide_eq_false h1
        have t2 : ((n0 : Int) == (k : Int)) = false := beq_eq_false_iff_ne.2 (by omega)
        have t2' : (n0 == k) = false := beq_eq_false_iff_ne.2 (by omega)
        have hf : Hid (false = res) := by
          unfold Hid; rw [← hr.out]
          refine (decide_eq_false fun h => ?_).symm
          have := congrArg List.length h
          simp [HN0.out, HN1.out] at this
          omega
        go_wp2_with fail
        go_ret
        exact ⟨ret_bool hf.out, BW.out⟩
    · obtain rfl : k = n0 := by omega
      have t0 : decide (k < k) = false := decide_eq_false h0
      by_cases h1 : k = n1
      · subst h1
        have hf : Hid (true = res) := by
          unfold Hid; rw [← hr.out, List.drop_eq_nil_of_le (by rw [HN0.out]; omega), List.drop_eq_nil_of_le (by rw [HN1.out]; omega)]; rfl
        go_wp2_with fail
        go_ret
        exact ⟨ret_bool hf.out, BW.out⟩
      · have t2 : ((k : Int) == (n1 : Int)) = false := beq_eq_false_iff_ne.2 (by omega)
        have t2' : (k == n1) = false := beq_eq_false_iff_ne.2 h1
        have hf : Hid (false = res) := by
          unfold Hid; rw [← hr.out]
          refine (decide_eq_false fun h => ?_).symm
          have := congrArg List.length h
          simp [HN0.out, HN1.out] at this
          omega
        go_wp2_with fail
        go_ret
        exact ⟨ret_bool hf.out, BW.out⟩


end Go.Proofs.Ytannipfohicpmaa

/- Walks of the reference of layer 2: a copy of a line. -/
namespace Go.Proofs.Ytannipfohicpmaa
open Go.RowKit Go.Shelf Mpl

theorem knotC_one (l : List Knot) : ∀ u ∈ l.flatMap knotC, u.oneCell' = true := by
  intro u hu
  obtain ⟨t, _, hu⟩ := List.mem_flatMap.1 hu
  simp [knotC] at hu
  rcases hu with rfl | rfl <;> rfl
theorem Knots.src {w : World} {B : Nat} {A : Option Addr} {l : List Knot} (h : Knots w B A l) : Src w A l.length 2 (l.flatMap knotC) :=
  ⟨flatC_len knotC 2 (fun _ => rfl) l, fun h0 => by
    obtain ⟨b, off, rfl, _, hc⟩ := h.out h0
    refine ⟨b, off, rfl, flat_src knotC 2 (by omega) (fun _ => rfl) l w b off fun i hi j u hu => ?_⟩
    have hj : j < 2 := by have := (List.getElem?_eq_some_iff.1 hu).1; simpa [knotC] using this
    have ht : kn l i = l[i] := by simp [kn, hi]
    have := hc i hi
    rw [ht] at this
    rcases (show j = 0 ∨ j = 1 by omega) with rfl | rfl <;> simp [knotC] at hu <;> subst hu
    · exact this.1
    · exact this.2⟩

set_option maxHeartbeats 4000000 in
set_option maxRecDepth 100000 in
theorem ref02_OwnLine (ks : List Knot) (v0 : Value) (w : World) (hv : LineV w w.heap.size v0 ks) (hn : ks.length ≤ 1000) :
    Calls Try.prog 61 #[v0] w fun e w' => (∃ A' c', e = .returned (.agg #[.slice A' ks.length c']) ∧ w'.ownsRow w.heap.size 71 2 (.slice A' ks.length c') ks.length (ks.flatMap knotC)) ∧ Below w.heap.size w w' := by
  obtain ⟨A, c, rfl, hk⟩ := hv
  obtain ⟨w0, hw0⟩ : ∃ w0, (w.alloc (.cells #[.slice A ks.length c] 24)).alloc (.cells #[.slice none 0 0] 24) = w0 := ⟨_, rfl⟩
  have HB0 := Lib.hid (show Below w.heap.size w w0 by rw [← hw0]; exact (by repeat (first | exact Below.refl _ _ | assumption | refine Below.setCell ?_ (by first | (simp; done) | (simp; omega)) _ | refine belowDrewN ?_ _ | refine Below.drew ?_ | refine Below.alloc ?_ (by first | (simp; done) | (simp; omega)) _)))
  have B0 := Lib.hid (show Box w0 w.heap.size 24 #[.slice A ks.length c] by rw [← hw0]; exact (Box.new w _ _ rfl).alloc _)
  have B1 := Lib.hid (show Box w0 (w.heap.size + 1) 24 #[.slice none 0 0] by rw [← hw0]; exact Box.new _ _ _ (by simp))
  have HSZ := Lib.hid (show w0.heap.size = w.heap.size + 1 + 1 by rw [← hw0]; simp)
  have HW0 := Lib.hid hw0
  have HS := Lib.hid (fun W (hW : Below w.heap.size w W) => (hk.up hW hW.size).src)
  have HO := Lib.hid (fun (W : World) => World.ownsRow_nil W (w.heap.size + 1 + 1) 71 2)
  have HOne := Lib.hid (knotC_one ks)
  obtain ⟨i0, hi, hz0, hz1, hz2⟩ := info_parts info_Knot
  have q0 := B0.out.cell 0
  simp only [List.getElem?_toArray, List.getElem?_cons_zero] at q0
  clear hk hw0
  generalize ks.flatMap knotC = cells at *
  generalize ks.length = n at *
  go_enter Try.func61, Try.ntmps61
  go_upto_region 1 with fail
  rw [HW0.out]
  go_wp2_with (at_builtin; refine wpList_append_list _ rfl _ _ 22 rfl (w.heap.size + 1 + 1) 71 i0 (.agg #[.int .i64 0, .int .i64 0]) 2 16 Try.underlying22 hi hz0 hz1 hz2 rfl (by decide) _ 0 [] rfl (HO.out _) A n c cells rfl (HS.out _ HB0.out) HOne.out ?c1 ?c2 ?c3 ?_)
  case c1 => unfold maxLen; omega
  case c2 => omega
  case c3 => rw [HSZ.out]; omega
  intro v1 w1 hown hg
  have hB2 := Lib.hid (below_grown (Below.refl (w.heap.size + 1 + 1) w0) (HO.out _) hg (by rw [HSZ.out]; omega))
  obtain ⟨A', c', rfl, _, _⟩ := own_form hown
  have H1 := Lib.hid hown
  have C1 := Lib.hid (B1.out.below hB2.out (by omega))
  have x0 := (show w1.cell? ⟨w.heap.size + 1, 0, none⟩ = some (.slice none 0 0) from C1.out.cell 0)
  have f0 := C1.out.frozen 0
  have HB1 := Lib.hid (HB0.out.trans (hB2.out.mono (by omega)))
  clear hown hg q0
  go_wp2_with fail
  refine bodyPost_ret (results_cell1 rfl _ _ _ (w.heap.size + 1) (.agg #[.slice A' n c']) rfl (load_line (t := 24) (by simpa using C1.out.set_ 0 (.slice A' n c')))) rfl ⟨⟨A', c', rfl, ?_⟩, HB1.out.setCell (p := ⟨w.heap.size + 1, 0, none⟩) (by simp) _⟩
  exact own_le (own_far (p := ⟨w.heap.size + 1, 0, none⟩) H1.out (by simp) _) (by omega)

end Go.Proofs.Ytannipfohicpmaa

/- Walks of the reference of layer 5: a copy of a job. -/
namespace Go.Proofs.Ytannipfohicpmaa
open Go.ChangeShapes Go.WideShapes Go.RowKit Go.Shelf Go.Deep Mpl

/-- a job in memory of the call's own -/
def JobOwn (W : World) (base : Nat) (v : Value) (j : Job) : Prop :=
  ∃ (AE : Option Addr) (cE : Nat) (AL : Option Addr) (cL : Nat) (AG : Option Addr) (cG : Nat) (ls : List LoadC), v = .agg #[.slice AE j.Ends.length cE, .slice AL j.Loads.length cL, .slice AG j.Grades.length cG, .int .i64 j.Factor, .int .i64 j.Over] ∧ ls.map LoadC.s = j.Loads ∧
    W.ownsRow base 2 1 (.slice AE j.Ends.length cE) j.Ends.length (j.Ends.map (Value.int .i64)) ∧ W.ownsRow base 26 2 (.slice AL j.Loads.length cL) j.Loads.length (ls.flatMap loadC) ∧ (∀ x ∈ ls, LoadOwn W base x) ∧
    W.ownsRow base 63 5 (.slice AG j.Grades.length cG) j.Grades.length (j.Grades.flatMap gradeC)

theorem JobOwn.job {W : World} {base : Nat} {v : Value} {j : Job} (h : JobOwn W base v j) : JobV W W.heap.size v j := by
  obtain ⟨AE, cE, AL, cL, AG, cG, ls, rfl, hls, hE, hL, hK, hG⟩ := h
  obtain ⟨A1, c1, e1, k1, I1⟩ := Ints.own hE
  obtain ⟨A2, c2, e2, _, I2⟩ := Loads.own hL hK
  obtain ⟨A3, c3, e3, _, I3⟩ := Grades.own hG
  injection e1 with e11 _ e12
  injection e2 with e21 _ e22
  injection e3 with e31 _ e32
  subst e11 e12 e21 e22 e31 e32
  rw [hls] at I2
  exact ⟨AE, cE, AL, cL, AG, cG, rfl, k1, I1, I2, I3⟩

theorem gradeC_one (l : List Grade) : ∀ u ∈ l.flatMap gradeC, u.oneCell' = true := by
  intro u hu
  obtain ⟨t, _, hu⟩ := List.mem_flatMap.1 hu
  simp [gradeC] at hu
  rcases hu with rfl | rfl | rfl | rfl | rfl <;> rfl
theorem Grades.src {w : World} {B : Nat} {A : Option Addr} {l : List Grade} (h : Grades w B A l) : Src w A l.length 5 (l.flatMap gradeC) :=
  ⟨flatC_len gradeC 5 (fun _ => rfl) l, fun h0 => by
    obtain ⟨b, off, rfl, _, hc⟩ := h h0
    refine ⟨b, off, rfl, flat_src gradeC 5 (by omega) (fun _ => rfl) l w b off fun i hi j u hu => ?_⟩
    have hj : j < 5 := by have := (List.getElem?_eq_some_iff.1 hu).1; simpa [gradeC] using this
    have ht : gd l i = l[i] := by simp [gd, hi]
    have := hc i hi
    rw [ht] at this
    rcases (show j = 0 ∨ j = 1 ∨ j = 2 ∨ j = 3 ∨ j = 4 by omega) with rfl | rfl | rfl | rfl | rfl <;> simp [gradeC] at hu <;> subst hu
    · exact this.1
    · exact this.2.1
    · exact this.2.2.1
    · exact this.2.2.2.1
    · exact this.2.2.2.2⟩

/-- a job that is being copied: what stands beside the loads -/
structure CopySt (w W : World) (AL : Option Addr) (nL cL : Nat) (vE vG : Value) (nE nG : Nat) (es gs : List Value) (F O : Int) : Prop where
  job : Box W w.heap.size 36 #[vE, .slice AL nL cL, vG, .int .i64 F, .int .i64 O]
  res : Box W (w.heap.size + 1) 36 #[.slice none 0 0, .slice none 0 0, .slice none 0 0, .int .i64 0, .int .i64 0]
  ends : W.ownsRow (w.heap.size + 1 + 1) 2 1 vE nE es
  grades : W.ownsRow (w.heap.size + 1 + 1) 63 5 vG nG gs
  low : Below w.heap.size w W
  size : w.heap.size + 1 + 1 ≤ W.heap.size
section
variable {w W W' : World} {AL : Option Addr} {nL cL : Nat} {vE vG : Value} {nE nG : Nat} {es gs : List Value} {F O : Int}
theorem CopySt.under (h : CopySt w W AL nL cL vE vG nE nG es gs F O) (hb : Below W.heap.size W W') : CopySt w W' AL nL cL vE vG nE nG es gs F O :=
  ⟨h.job.under hb, h.res.under hb, own_under h.ends hb, own_under h.grades hb, h.low.trans (hb.mono h.low.size), Nat.le_trans h.size hb.size⟩
theorem CopySt.grown {n : Nat} {v : Value} {xs : List Value} {o : Obj} (h : CopySt w W AL nL cL vE vG nE nG es gs F O) (hL : W.ownsRow (w.heap.size + 1 + 1) 26 2 v n xs) (hg : (W.alloc o).grownBy W' v.ownBlock) : CopySt w W' AL nL cL vE vG nE nG es gs F O := by
  have hB : Below (w.heap.size + 1 + 1) W W' := below_grown ((Below.refl _ W).alloc h.size o) (hL.alloc o) hg (by have := h.size; simp; omega)
  exact ⟨h.job.below hB (by omega), h.res.below hB (by omega), own_other (h.ends.alloc o) (hL.alloc o) (by decide) hg, own_other (h.grades.alloc o) (hL.alloc o) (by decide) hg, h.low.trans (hB.mono (by omega)), Nat.le_trans h.size hB.size⟩
end
theorem LoadOwn.under {W W' : World} {base : Nat} {x : LoadC} (h : LoadOwn W base x) (hb : Below W.heap.size W W') : LoadOwn W' base x := ⟨own_under h.1 hb, own_under h.2 hb⟩
theorem LoadOwn.le {W : World} {base base' : Nat} {x : LoadC} (h : LoadOwn W base x) (hb : base' ≤ base) : LoadOwn W base' x := ⟨own_le h.1 hb, own_le h.2 hb⟩
theorem LoadOwn.grown {W W' : World} {base base' : Nat} {x : LoadC} {n : Nat} {v : Value} {xs : List Value} {o : Obj} (h : LoadOwn W base x) (hL : W.ownsRow base' 26 2 v n xs) (hg : (W.alloc o).grownBy W' v.ownBlock) : LoadOwn W' base x :=
  ⟨own_other (h.1.alloc o) (hL.alloc o) (by decide) hg, own_other (h.2.alloc o) (hL.alloc o) (by decide) hg⟩
theorem ld_take {l : List Stress} {k : Nat} (h : k < l.length) : l.take (k + 1) = l.take k ++ [ld l k] := by
  rw [List.take_succ_eq_append_getElem h]
  simp [ld, h]

theorem ld_eta {s : Stress} {a b : List Knot} (h1 : s.In = a) (h2 : s.Out = b) : s = ⟨a, b⟩ := by
  subst h1 h2
  rfl
theorem copy_all {wr w5 w6 : World} {B : Nat} {ls : List LoadC} {A5 A6 : Option Addr} {c5 c6 : Nat} {kI kO : List Knot} (hB : B ≤ wr.heap.size) (hk : ∀ x ∈ ls, LoadOwn wr B x)
    (B5 : Below wr.drew.heap.size wr.drew w5) (O5 : w5.ownsRow wr.drew.heap.size 71 2 (.slice A5 kI.length c5) kI.length (kI.flatMap knotC))
    (B6 : Below w5.heap.size w5 w6) (O6 : w6.ownsRow w5.heap.size 71 2 (.slice A6 kO.length c6) kO.length (kO.flatMap knotC)) : ∀ x ∈ ls ++ [⟨A5, c5, A6, c6, ⟨kI, kO⟩⟩], LoadOwn w6 B x := by
  intro y hy
  have hb06 : Below wr.heap.size wr w6 := (Below.refl _ wr).drew.trans (B5.trans (B6.mono B5.size))
  rw [List.mem_append, List.mem_singleton] at hy
  rcases hy with hy | rfl
  · exact (hk y hy).under hb06
  · exact ⟨own_under (own_le O5 hB) B6, own_le O6 (Nat.le_trans hB B5.size)⟩

set_option maxHeartbeats 8000000 in
set_option maxRecDepth 100000 in
theorem ref05_Copy (j : Job) (v0 : Value) (w : World) (hv : JobV w w.heap.size v0 j) (hE : j.Ends.length ≤ 1000) (hL : j.Loads.length ≤ 1000) (hG : j.Grades.length ≤ 1000) (hK : ∀ i, i < j.Loads.length → (ld j.Loads i).In.length ≤ 1000 ∧ (ld j.Loads i).Out.length ≤ 1000) :
    Calls Try.prog 35 #[v0] w fun e w' => (∃ v, e = .returned v ∧ JobOwn w' w.heap.size v j) ∧ Below w.heap.size w w' := by
  obtain ⟨AE, cE, AL, cL, AG, cG, rfl, hcap, hvE, hvL, hvG⟩ := hv
  have HSE := Lib.hid (fun W (hW : Below w.heap.size w W) => (hvE.up hW hW.size).src)
  have HSG := Lib.hid (fun W (hW : Below w.heap.size w W) => (hvG.up hW hW.size).src)
  have HL := Lib.hid hvL
  have HOE := Lib.hid (int_one j.Ends)
  have HOG := Lib.hid (gradeC_one j.Grades)
  have HLK := Lib.hid hK
  have HTK := Lib.hid (fun k (h : k < j.Loads.length) => ld_take h)
  have HTA := Lib.hid (show j.Loads.take j.Loads.length = j.Loads by simp)
  have HOL := Lib.hid (fun ks v W hv hn => ref02_OwnLine ks v W hv hn)
  have HFIN : Hid (∀ (W : World) (AE : Option Addr) (cE : Nat) (AL' : Option Addr) (cL' : Nat) (AG : Option Addr) (cG : Nat) (ls : List LoadC), ls.map LoadC.s = j.Loads →
    W.ownsRow (w.heap.size + 1 + 1) 2 1 (.slice AE j.Ends.length cE) j.Ends.length (j.Ends.map (Value.int .i64)) → W.ownsRow (w.heap.size + 1 + 1) 26 2 (.slice AL' j.Loads.length cL') j.Loads.length (ls.flatMap loadC) → (∀ x ∈ ls, LoadOwn W (w.heap.size + 1 + 1) x) →
    W.ownsRow (w.heap.size + 1 + 1) 63 5 (.slice AG j.Grades.length cG) j.Grades.length (j.Grades.flatMap gradeC) → JobOwn W w.heap.size (.agg #[.slice AE j.Ends.length cE, .slice AL' j.Loads.length cL', .slice AG j.Grades.length cG, .int .i64 j.Factor, .int .i64 j.Over]) j) :=
    fun W AE cE AL' cL' AG cG ls h1 h2 h3 h4 h5 => ⟨AE, cE, AL', cL', AG, cG, ls, rfl, h1, own_le h2 (by omega), own_le h3 (by omega), fun x hx => (h4 x hx).le (by omega), own_le h5 (by omega)⟩
  clear hvE hvL hvG hK hcap
  generalize j.Ends.map (Value.int .i64) = es at *
  generalize j.Grades.flatMap gradeC = gs at *
  generalize j.Factor = F at *
  generalize j.Over = O at *
  generalize hnE : j.Ends.length = nE at *
  generalize hnL : j.Loads.length = nL at *
  generalize hnG : j.Grades.length = nG at *
  have HNL := Lib.hid hnL
  clear hnE hnG hnL
  obtain ⟨w0, hw0⟩ : ∃ w0, (w.alloc (.cells #[.slice AE nE cE, .slice AL nL cL, .slice AG nG cG, .int .i64 F, .int .i64 O] 36)).alloc (.cells #[.slice none 0 0, .slice none 0 0, .slice none 0 0, .int .i64 0, .int .i64 0] 36) = w0 := ⟨_, rfl⟩
  have HB0 := Lib.hid (show Below w.heap.size w w0 by rw [← hw0]; exact (by repeat (first | exact Below.refl _ _ | assumption | refine Below.setCell ?_ (by first | (simp; done) | (simp; omega)) _ | refine belowDrewN ?_ _ | refine Below.drew ?_ | refine Below.alloc ?_ (by first | (simp; done) | (simp; omega)) _)))
  have B0 := Lib.hid (show Box w0 w.heap.size 36 #[.slice AE nE cE, .slice AL nL cL, .slice AG nG cG, .int .i64 F, .int .i64 O] by rw [← hw0]; exact (Box.new w _ _ rfl).alloc _)
  have B1 := Lib.hid (show Box w0 (w.heap.size + 1) 36 #[.slice none 0 0, .slice none 0 0, .slice none 0 0, .int .i64 0, .int .i64 0] by rw [← hw0]; exact Box.new _ _ _ (by simp))
  have HSZ := Lib.hid (show w0.heap.size = w.heap.size + 1 + 1 by rw [← hw0]; simp)
  have HW0 := Lib.hid hw0
  clear hw0
  have HO := Lib.hid (fun (W : World) (t k : Nat) => World.ownsRow_nil W (w.heap.size + 1 + 1) t k)
  obtain ⟨i0, hi0, hz0, hz1, hz2⟩ := info_parts info_int64
  obtain ⟨i1, hi1, hy0, hy1, hy2⟩ := info_parts info_Grade
  obtain ⟨i2, hi2, hx0, hx1, hx2⟩ := info_parts info_Stress
  have q0 := (show w0.cell? ⟨w.heap.size, 0, none⟩ = some (.slice AE nE cE) from B0.out.cell 0)
  have f0 := B0.out.frozen 0
  go_enter Try.func35, Try.ntmps35
  go_upto_region 1 with fail
  rw [HW0.out]
  go_wp2_with (at_builtin; refine wpList_append_list _ rfl _ _ 32 rfl (w.heap.size + 1 + 1) 2 i0 (.int .i64 0) 1 8 Try.underlying32 hi0 hz0 hz1 hz2 rfl (by decide) _ 0 [] rfl (HO.out _ _ _) AE nE cE es rfl (HSE.out _ HB0.out) HOE.out ?c1 ?c2 ?c3 ?_)
  case c1 => unfold maxLen; omega
  case c2 => omega
  case c3 => rw [HSZ.out]; omega
  intro v1 w1 hown hg
  have hB1 := Lib.hid (below_grown (Below.refl (w.heap.size + 1 + 1) w0) (HO.out w0 2 1) hg (by rw [HSZ.out]; omega))
  obtain ⟨AE', cE', rfl, _, _⟩ := own_form hown
  have hsz1 := Lib.hid (show w.heap.size + 1 + 1 ≤ w1.heap.size by have := hB1.out.size; have := HSZ.out; omega)
  have OE1 := Lib.hid hown
  have B01 := Lib.hid (B0.out.below hB1.out (by omega))
  have B11 := Lib.hid (B1.out.below hB1.out (by omega))
  have HB1 := Lib.hid (HB0.out.trans (hB1.out.mono (by omega)))
  clear hown hg q0 f0 HB0 hB1 HSE HOE HW0
  have q0 := (show w1.cell? ⟨w.heap.size, 0, none⟩ = some (.slice AE nE cE) from B01.out.cell 0)
  have f0 := B01.out.frozen 0
  go_upto_region 2 with fail
  have C0 := Lib.hid (show Box (w1.setCell ⟨w.heap.size, 0, none⟩ (.slice AE' nE cE')) w.heap.size 36 #[.slice AE' nE cE', .slice AL nL cL, .slice AG nG cG, .int .i64 F, .int .i64 O] by simpa using B01.out.set_ 0 (.slice AE' nE cE'))
  have C1 := Lib.hid (B11.out.far (p := ⟨w.heap.size, 0, none⟩) (by simp) (.slice AE' nE cE'))
  have OE2 := Lib.hid (own_far (p := ⟨w.heap.size, 0, none⟩) OE1.out (by simp; omega) (.slice AE' nE cE'))
  have HB2 := Lib.hid (HB1.out.setCell (p := ⟨w.heap.size, 0, none⟩) (by simp) (.slice AE' nE cE'))
  have hsz2 := Lib.hid (show w.heap.size + 1 + 1 ≤ (w1.setCell ⟨w.heap.size, 0, none⟩ (.slice AE' nE cE')).heap.size by simpa using hsz1.out)
  generalize w1.setCell ⟨w.heap.size, 0, none⟩ (.slice AE' nE cE') = w2 at *
  clear q0 f0 OE1 B01 B11 HB1 hsz1 HSZ
  have q0 := (show w2.cell? ⟨w.heap.size, 2, none⟩ = some (.slice AG nG cG) from C0.out.cell 2)
  have f0 := C0.out.frozen 2
  go_wp2_with (at_builtin; refine wpList_append_list _ rfl _ _ 34 rfl (w.heap.size + 1 + 1) 63 i1 (.agg #[.int .i64 0, .int .i64 0, .int .i64 0, .int .i64 0, .int .i64 0]) 5 40 Try.underlying34 hi1 hy0 hy1 hy2 rfl (by decide) _ 0 [] rfl (HO.out _ _ _) AG nG cG gs rfl (HSG.out _ HB2.out) HOG.out ?c1 ?c2 ?c3 ?_)
  case c1 => unfold maxLen; omega
  case c2 => omega
  case c3 => exact hsz2.out
  intro v3 w3 hown hg
  have hB3 := Lib.hid (below_grown (Below.refl (w.heap.size + 1 + 1) w2) (HO.out w2 63 5) hg hsz2.out)
  obtain ⟨AG', cG', rfl, _, _⟩ := own_form hown
  have hsz3 := Lib.hid (show w.heap.size + 1 + 1 ≤ w3.heap.size by have := hB3.out.size; have := hsz2.out; omega)
  have OG3 := Lib.hid hown
  have OE3 := Lib.hid (own_other OE2.out (HO.out w2 63 5) (by decide) hg)
  have B03 := Lib.hid (C0.out.below hB3.out (by omega))
  have B13 := Lib.hid (C1.out.below hB3.out (by omega))
  have HB3 := Lib.hid (HB2.out.trans (hB3.out.mono (by omega)))
  clear hown hg q0 f0 HB2 hB3 HSG HOG C0 C1 OE2 hsz2 HO
  have q0 := (show w3.cell? ⟨w.heap.size, 2, none⟩ = some (.slice AG nG cG) from B03.out.cell 2)
  have f0 := B03.out.frozen 2
  go_upto_region 3 with fail
  have ST := Lib.hid (show CopySt w (w3.setCell ⟨w.heap.size, 2, none⟩ (.slice AG' nG cG')) AL nL cL (.slice AE' nE cE') (.slice AG' nG cG') nE nG es gs F O from
    ⟨by simpa using B03.out.set_ 2 (.slice AG' nG cG'), B13.out.far (p := ⟨w.heap.size, 2, none⟩) (by simp) _, own_far (p := ⟨w.heap.size, 2, none⟩) OE3.out (by simp; omega) _, own_far (p := ⟨w.heap.size, 2, none⟩) OG3.out (by simp; omega) _, HB3.out.setCell (p := ⟨w.heap.size, 2, none⟩) (by simp) _, by simpa using hsz3.out⟩)
  generalize w3.setCell ⟨w.heap.size, 2, none⟩ (.slice AG' nG cG') = w4 at *
  clear q0 f0 OE3 OG3 B03 B13 HB3 hsz3
  go_wp2_with fail
  go_loopw [3, 4] (fun s3 s4 wr => ∃ (k : Nat) (ls : List LoadC), k ≤ nL ∧ s4 = .int .i64 k ∧ Hid (ls.map LoadC.s = j.Loads.take k) ∧ Hid (wr.ownsRow (w.heap.size + 1 + 1) 26 2 s3 k (ls.flatMap loadC)) ∧ Hid (∀ x ∈ ls, LoadOwn wr (w.heap.size + 1 + 1) x) ∧ Hid (CopySt w wr AL nL cL (.slice AE' nE cE') (.slice AG' nG cG') nE nG es gs F O)) (fun _ s4 _ => nL - (intOf s4).toNat)
  case atStart => exact ⟨0, [], Nat.zero_le _, rfl, rfl, World.ownsRow_nil _ _ _ _, (fun x hx => absurd hx (by simp)), ST⟩
  case round =>
    obtain ⟨k, ls, hk, rfl, hls, hown, hkn, hS⟩ := hrel
    have q1 := (show wr.cell? ⟨w.heap.size, 1, none⟩ = some (.slice AL nL cL) from hS.out.job.cell 1)
    by_cases hlt : k < nL
    · have t0 : decide (k < nL) = true := decide_eq_true hlt
      have z0 : (k : Int) < (nL : Int) := by omega
      have hkl : k < j.Loads.length := by rw [HNL.out]; exact hlt
      obtain ⟨b, off, AI, AO, cI, cO, rfl, hb, hc⟩ := HL.out (by omega)
      obtain ⟨c0, c1, k0, k1⟩ := hc k hkl
      have d0 := oldCell hS.out.low hb c0
      have d1 := oldCell hS.out.low hb c1
      have HC := Lib.hid (And.intro c0 c1)
      have HT := Lib.hid (HTK.out k hlt)
      obtain ⟨n0, n1⟩ := HLK.out k hlt
      have HO1 := Lib.hid (fun W (hW : Below w.heap.size w W) => HOL.out (ld j.Loads k).In (.agg #[.slice (AI k) (ld j.Loads k).In.length (cI k)]) W ⟨AI k, cI k, rfl, k0.up hW hW.size⟩ n0)
      have HO2 := Lib.hid (fun W (hW : Below w.heap.size w W) => HOL.out (ld j.Loads k).Out (.agg #[.slice (AO k) (ld j.Loads k).Out.length (cO k)]) W ⟨AO k, cO k, rfl, k1.up hW hW.size⟩ n1)
      have hlo : w.heap.size ≤ wr.heap.size := hS.out.low.size
      have hsz := hS.out.size
      clear hc c0 c1 k0 k1
      generalize hkI : (ld j.Loads k).In = kI at *
      generalize hkO : (ld j.Loads k).Out = kO at *
      have HKI := Lib.hid hkI
      have HKO := Lib.hid hkO
      clear hkI hkO
      have C0 := Lib.hid (show w.cell? ⟨b, off + k * 2, none⟩ = some (.slice (AI k) kI.length (cI k)) from HC.out.1)
      have C1 := Lib.hid (show w.cell? ⟨b, off + k * 2 + 1, none⟩ = some (.slice (AO k) kO.length (cO k)) from HC.out.2)
      clear HC
      have hlb : b < wr.heap.size := by omega
      go_wp2_with fail
      clear t0
      have hs0 : Below w.heap.size w wr.drew := hS.out.low.drew
      go_region_law (first
        | (refine step_append_lies _ (by rfl) _ _ _ (by rfl) (w.heap.size + 1 + 1) 26 i2 _ 2 48 Try.underlying33 hi2 hx0 hx1 hx2 rfl (by omega) u3 k (ls.flatMap loadC) (by rfl) (OL.out.alloc _) ⟨w6.heap.size, 0, none⟩ 1 1 (loadC ⟨A5, c5, A6, c6, ⟨kI, kO⟩⟩) (by rfl) (by rfl) (cells_new w6 (loadC ⟨A5, c5, A6, c6, ⟨kI, kO⟩⟩) 26) (by simp [loadC, Value.oneCell']) (by omega) (by unfold maxLen; omega) (by omega) (by simp; omega) (w6.heap.size + 1) (by simp) ?_; intro g7 cap7 w7 hown7 hg7 hat7 hlt7; have S7 := Lib.hid (S6.out.grown OL.out hg7); have K7 := Lib.hid (fun x hx => (K6.out x hx).grown OL.out hg7); have z1 := (show w7.cell? ⟨w.heap.size, 1, none⟩ = some (.slice (some ⟨b, off, none⟩) nL cL) from S7.out.job.cell 1); have z2 := oldCell S7.out.low hb C0.out; have z3 := oldCell S7.out.low hb C1.out; have O7 := Lib.hid hown7; clear hg7 hown7)
        | (go_simp; go_at_call 61; (with_reducible refine (HO1.out _ hs0).mono ?_); rintro e w5 ⟨⟨A5, c5, rfl, ho5⟩, hb5⟩; have S5 := Lib.hid ((hS.out.under (Below.refl _ wr).drew).under hb5); have O5 := Lib.hid ho5; have B5 := Lib.hid hb5; have x1 := (show w5.cell? ⟨w.heap.size, 1, none⟩ = some (.slice (some ⟨b, off, none⟩) nL cL) from S5.out.job.cell 1); have x2 := oldCell S5.out.low hb C0.out; have x3 := oldCell S5.out.low hb C1.out; clear ho5 hb5)
        | (go_simp; go_at_call 61; (with_reducible refine (HO2.out _ S5.out.low).mono ?_); rintro e w6 ⟨⟨A6, c6, rfl, ho6⟩, hb6⟩; have S6 := Lib.hid (S5.out.under hb6); have O6 := Lib.hid ho6; have B6 := Lib.hid hb6; have y1 := (show w6.cell? ⟨w.heap.size, 1, none⟩ = some (.slice (some ⟨b, off, none⟩) nL cL) from S6.out.job.cell 1); have y2 := oldCell S6.out.low hb C0.out; have y3 := oldCell S6.out.low hb C1.out; have OL := Lib.hid (own_under (own_under hown.out.drew B5.out) B6.out); have hs6 : w.heap.size + 1 + 1 ≤ w6.heap.size := S6.out.size; have hs5 : w.heap.size + 1 + 1 ≤ w5.heap.size := S5.out.size; have hsr : w.heap.size + 1 + 1 ≤ wr.heap.size := hsz; have K6 := Lib.hid (show ∀ x ∈ ls ++ [⟨A5, c5, A6, c6, ⟨kI, kO⟩⟩], LoadOwn w6 (w.heap.size + 1 + 1) x from fun x hx => copy_all hsr hkn.out B5.out O5.out B6.out O6.out x hx); clear ho6 hb6)
        | fail)
      all_goals
        clear x1 x2 x3 y1 y2 y3 q1 d0 d1
        go_wp2_with fail
        go_roundw
        case rel =>
          refine ⟨k + 1, ls ++ [⟨A5, c5, A6, c6, ⟨kI, kO⟩⟩], hlt, by go_num, ?_, ?_, K7, S7⟩
          · unfold Hid
            rw [List.map_append, hls.out, HT.out]
            simp [ld_eta HKI.out HKO.out]
          · unfold Hid
            rw [List.flatMap_append]
            simpa using O7.out
        case measure => simp [intOf]; omega
    · obtain rfl : k = nL := by omega
      have t0 : decide (k < k) = false := decide_eq_false hlt
      rw [HTA.out] at hls
      obtain ⟨AL', cL', rfl, _, _⟩ := own_form hown.out
      have f1 := hS.out.job.frozen 1
      clear HL HLK HTK HOL hlt hk
      have k0 := (show wr.cell? ⟨w.heap.size, 0, none⟩ = some (.slice AE' nE cE') from hS.out.job.cell 0)
      have k2 := (show wr.cell? ⟨w.heap.size, 2, none⟩ = some (.slice AG' nG cG') from hS.out.job.cell 2)
      have k3 := (show wr.cell? ⟨w.heap.size, 3, none⟩ = some (.int .i64 F) from hS.out.job.cell 3)
      have k4 := (show wr.cell? ⟨w.heap.size, 4, none⟩ = some (.int .i64 O) from hS.out.job.cell 4)
      have l0 := (show wr.cell? ⟨w.heap.size + 1, 0, none⟩ = some (.slice none 0 0) from hS.out.res.cell 0)
      have l1 := (show wr.cell? ⟨w.heap.size + 1, 1, none⟩ = some (.slice none 0 0) from hS.out.res.cell 1)
      have l2 := (show wr.cell? ⟨w.heap.size + 1, 2, none⟩ = some (.slice none 0 0) from hS.out.res.cell 2)
      have l3 := (show wr.cell? ⟨w.heap.size + 1, 3, none⟩ = some (.int .i64 0) from hS.out.res.cell 3)
      have l4 := (show wr.cell? ⟨w.heap.size + 1, 4, none⟩ = some (.int .i64 0) from hS.out.res.cell 4)
      have f2 := hS.out.res.frozen 0
      have f3 := hS.out.res.frozen 1
      have f4 := hS.out.res.frozen 2
      have f5 := hS.out.res.frozen 3
      have f6 := hS.out.res.frozen 4
      go_wp2_with fail
      have hbx := ((((((hS.out.res.far (p := ⟨w.heap.size, 1, none⟩) (by simp) (.slice AL' k cL')).set_ 0 (.slice AE' nE cE')).set_ 1 (.slice AL' k cL')).set_ 2 (.slice AG' nG cG')).set_ 3 (.int .i64 F)).set_ 4 (.int .i64 O))
      have HFAR : ∀ {e size : Nat} {v : Value} {n : Nat} {xs : List Value}, wr.ownsRow (w.heap.size + 1 + 1) e size v n xs → ((((((wr.setCell ⟨w.heap.size, 1, none⟩ (.slice AL' k cL')).setCell ⟨w.heap.size + 1, 0, none⟩ (.slice AE' nE cE')).setCell ⟨w.heap.size + 1, 1, none⟩ (.slice AL' k cL')).setCell ⟨w.heap.size + 1, 2, none⟩ (.slice AG' nG cG')).setCell ⟨w.heap.size + 1, 3, none⟩ (.int .i64 F)).setCell ⟨w.heap.size + 1, 4, none⟩ (.int .i64 O)).ownsRow (w.heap.size + 1 + 1) e size v n xs := by
        intro e size v n xs h
        exact own_far (own_far (own_far (own_far (own_far (own_far h (by simp; omega) _) (by simp) _) (by simp) _) (by simp) _) (by simp) _) (by simp) _
      have BF := ((((((hS.out.low.setCell (p := ⟨w.heap.size, 1, none⟩) (by simp) (.slice AL' k cL')).setCell (p := ⟨w.heap.size + 1, 0, none⟩) (by simp) (.slice AE' nE cE')).setCell (p := ⟨w.heap.size + 1, 1, none⟩) (by simp) (.slice AL' k cL')).setCell (p := ⟨w.heap.size + 1, 2, none⟩) (by simp) (.slice AG' nG cG')).setCell (p := ⟨w.heap.size + 1, 3, none⟩) (by simp) (.int .i64 F)).setCell (p := ⟨w.heap.size + 1, 4, none⟩) (by simp) (.int .i64 O))
      refine bodyPost_ret (results_cell1 rfl _ _ _ (w.heap.size + 1) (.agg #[.slice AE' nE cE', .slice AL' k cL', .slice AG' nG cG', .int .i64 F, .int .i64 O]) rfl (load_job (t := 36) (by simpa using hbx))) rfl ⟨⟨_, rfl, ?_⟩, BF⟩
      exact HFIN.out _ AE' cE' AL' cL' AG' cG' ls hls.out (HFAR hS.out.ends) (HFAR hown.out) (fun x hx => ⟨HFAR (hkn.out x hx).1, HFAR (hkn.out x hx).2⟩) (HFAR hS.out.grades)

end Go.Proofs.Ytannipfohicpmaa

/- Walks of the reference of layer 5: two jobs alike. (Printed by gen_refsame.py.) -/
namespace Mpl
instance : DecidableEq Stress := fun a b => decidable_of_iff (a.In = b.In ∧ a.Out = b.Out) (by cases a; cases b; simp)
instance : DecidableEq Grade := fun a b => decidable_of_iff (a.Burst = b.Burst ∧ a.Collapse = b.Collapse ∧ a.Pull = b.Pull ∧ a.Weight = b.Weight ∧ a.Cost = b.Cost) (by cases a; cases b; simp)
theorem load_step {x y : List Stress} {k : Nat} (hx : k < x.length) (hy : k < y.length) : (x.drop k = y.drop k) ↔ ((ld x k).In = (ld y k).In ∧ (ld x k).Out = (ld y k).Out ∧ x.drop (k + 1) = y.drop (k + 1)) := by
  have e1 : ld x k = x[k] := by simp [ld, hx]
  have e2 : ld y k = y[k] := by simp [ld, hy]
  rw [List.drop_eq_getElem_cons hx, List.drop_eq_getElem_cons hy, e1, e2, List.cons_eq_cons]
  have : ∀ a b : Stress, a = b ↔ a.In = b.In ∧ a.Out = b.Out := fun a b => by cases a; cases b; simp
  rw [this, and_assoc]
theorem grade_step {x y : List Grade} {k : Nat} (hx : k < x.length) (hy : k < y.length) : (x.drop k = y.drop k) ↔ (((gd x k).Burst = (gd y k).Burst ∧ (gd x k).Collapse = (gd y k).Collapse ∧ (gd x k).Pull = (gd y k).Pull ∧ (gd x k).Weight = (gd y k).Weight ∧ (gd x k).Cost = (gd y k).Cost) ∧ x.drop (k + 1) = y.drop (k + 1)) := by
  have e1 : gd x k = x[k] := by simp [gd, hx]
  have e2 : gd y k = y[k] := by simp [gd, hy]
  rw [List.drop_eq_getElem_cons hx, List.drop_eq_getElem_cons hy, e1, e2, List.cons_eq_cons]
  have : ∀ a b : Grade, a = b ↔ (a.Burst = b.Burst ∧ a.Collapse = b.Collapse ∧ a.Pull = b.Pull ∧ a.Weight = b.Weight ∧ a.Cost = b.Cost) := fun a b => by cases a; cases b; simp
  rw [this]
def sameJob (a b : Job) : Bool := decide (a.Factor = b.Factor) && (decide (a.Over = b.Over) && (decide (a.Ends = b.Ends) && (decide (a.Loads = b.Loads) && decide (a.Grades = b.Grades))))
theorem sameJob_self (a : Job) : sameJob a a = true := by simp [sameJob]
theorem sameJob_len {a b : Job} (h : ¬ (a.Ends.length = b.Ends.length ∧ a.Loads.length = b.Loads.length ∧ a.Grades.length = b.Grades.length)) : sameJob a b = false := by
  unfold sameJob
  by_cases h1 : a.Ends = b.Ends
  · by_cases h2 : a.Loads = b.Loads
    · by_cases h3 : a.Grades = b.Grades
      · exact absurd ⟨by rw [h1], by rw [h2], by rw [h3]⟩ h
      · rw [decide_eq_false h3]; simp
    · rw [decide_eq_false h2]; simp
  · rw [decide_eq_false h1]; simp
end Mpl
namespace Go.Proofs.Ytannipfohicpmaa
open Go.RowKit Go.Shelf Go.Deep Mpl

theorem run_neq_grade (x0 x1 x2 x3 x4 y0 y1 y2 y3 y4 : Int) (w : World) : (binOp .neq 63 (.agg #[.int .i64 x0, .int .i64 x1, .int .i64 x2, .int .i64 x3, .int .i64 x4]) (.agg #[.int .i64 y0, .int .i64 y1, .int .i64 y2, .int .i64 y3, .int .i64 y4])).run Try.prog w = .ok (.bool !(x0 == y0 && (x1 == y1 && (x2 == y2 && (x3 == y3 && x4 == y4))))) w := by
  have u3 := Try.underlying2
  have a3 := Try.isAgg2
  have z3 := Try.sizeOf2
  have hS : Try.prog.underlying 63 = some (.struct (Try.prog.fieldsOf 63)) := by kernel_rfl
  have hp : Try.prog.stoodInHeld 63 = false := by kernel_rfl
  rw [run_neq_struct, show (10000 : Nat) = 9999 + 1 from rfl, run_equalIn_agg w 9999 63 _ _ hS hp]
  simp only [Program.fieldsOf, Try.underlying63]
  go_simp
  by_cases h0 : x0 = y0 <;> by_cases h1 : x1 = y1 <;> by_cases h2 : x2 = y2 <;> by_cases h3 : x3 = y3 <;> by_cases h4 : x4 = y4 <;> simp [h0, h1, h2, h3, h4]

theorem small_parts {j : Job} (h : smallJob j = true) : j.Ends.length ≤ 7 ∧ j.Loads.length ≤ 8 ∧ j.Grades.length ≤ 8 ∧ ∀ i, i < j.Loads.length → (ld j.Loads i).In.length ≤ 1000 ∧ (ld j.Loads i).Out.length ≤ 1000 := by
  simp only [smallJob, Bool.and_eq_true, decide_eq_true_eq, List.all_eq_true] at h
  obtain ⟨⟨⟨h1, h2⟩, h3⟩, h4⟩ := h
  refine ⟨h1, h2, h3, fun i hi => ?_⟩
  have := h4 j.Loads[i] (List.getElem_mem hi)
  simp only [shortLoad, Bool.and_eq_true, decide_eq_true_eq] at this
  have e : ld j.Loads i = j.Loads[i] := by simp [ld, hi]
  rw [e]
  omega
/-- two jobs, each in a block of its own -/
structure Pair (w W : World) (ja jb : Array Value) : Prop where
  a : Box W w.heap.size 36 ja
  b : Box W (w.heap.size + 1) 36 jb
  low : Below w.heap.size w W
theorem Pair.under {w W W' : World} {ja jb : Array Value} (h : Pair w W ja jb) (hb : Below W.heap.size W W') : Pair w W' ja jb := ⟨h.a.under hb, h.b.under hb, h.low.trans (hb.mono h.low.size)⟩
theorem bool_and_true {a r : Bool} (h : a = true) : (a && r) = r := by rw [h]; rfl
theorem bool_and_false {a r : Bool} (h : a = false) : (a && r) = false := by rw [h]; rfl

set_option maxHeartbeats 16000000 in
set_option maxRecDepth 100000 in
theorem ref05_Same (x y : Job) (v0 v1 : Value) (w : World) (hv0 : JobV w w.heap.size v0 x) (hv1 : JobV w w.heap.size v1 y) (hx : smallJob x = true) (hy : smallJob y = true) :
    Calls Try.prog 38 #[v0, v1] w fun e w' => e = .returned (.bool (sameJob x y)) ∧ Below w.heap.size w w' := by
  obtain ⟨AE, cE, AL, cL, AG, cG, rfl, _, hvE, hvL, hvG⟩ := hv0
  obtain ⟨AE', cE', AL', cL', AG', cG', rfl, _, hvE', hvL', hvG'⟩ := hv1
  have HE := Lib.hid hvE
  have HL := Lib.hid hvL
  have HG := Lib.hid hvG
  have HE' := Lib.hid hvE'
  have HL' := Lib.hid hvL'
  have HG' := Lib.hid hvG'
  clear hvE hvL hvG hvE' hvL' hvG'
  obtain ⟨hx1, hx2, hx3, hx4⟩ := small_parts hx
  obtain ⟨hy1, hy2, hy3, hy4⟩ := small_parts hy
  have HX4 := Lib.hid hx4
  have HY4 := Lib.hid hy4
  clear hx hy hx4 hy4
  have hR : Hid (sameJob x y = (decide (x.Factor = y.Factor) && (decide (x.Over = y.Over) && (decide (x.Ends = y.Ends) && (decide (x.Loads = y.Loads) && decide (x.Grades = y.Grades)))))) := rfl
  have HLEN := Lib.hid (fun h => sameJob_len (a := x) (b := y) h)
  have HST1 := Lib.hid (fun k => same_step (x := x.Ends) (y := y.Ends) (k := k))
  have HST2 := Lib.hid (fun k => load_step (x := x.Loads) (y := y.Loads) (k := k))
  have HST3 := Lib.hid (fun k => grade_step (x := x.Grades) (y := y.Grades) (k := k))
  have hng := run_neq_grade
  generalize sameJob x y = res at *
  generalize x.Factor = F at *
  generalize y.Factor = F' at *
  generalize x.Over = O at *
  generalize y.Over = O' at *
  generalize hnE : x.Ends.length = nE at *
  generalize hnL : x.Loads.length = nL at *
  generalize hnG : x.Grades.length = nG at *
  generalize hnE' : y.Ends.length = nE' at *
  generalize hnL' : y.Loads.length = nL' at *
  generalize hnG' : y.Grades.length = nG' at *
  have HNE := Lib.hid hnE
  have HNL := Lib.hid hnL
  have HNG := Lib.hid hnG
  have HNE' := Lib.hid hnE'
  have HNL' := Lib.hid hnL'
  have HNG' := Lib.hid hnG'
  clear hnE hnL hnG hnE' hnL' hnG'
  obtain ⟨w0, hw0⟩ : ∃ w0, (w.alloc (.cells #[.slice AE nE cE, .slice AL nL cL, .slice AG nG cG, .int .i64 F, .int .i64 O] 36)).alloc (.cells #[.slice AE' nE' cE', .slice AL' nL' cL', .slice AG' nG' cG', .int .i64 F', .int .i64 O'] 36) = w0 := ⟨_, rfl⟩
  have PA := Lib.hid (show Pair w w0 #[.slice AE nE cE, .slice AL nL cL, .slice AG nG cG, .int .i64 F, .int .i64 O] #[.slice AE' nE' cE', .slice AL' nL' cL', .slice AG' nG' cG', .int .i64 F', .int .i64 O'] from
    ⟨by rw [← hw0]; exact (Box.new w _ _ rfl).alloc _, by rw [← hw0]; exact Box.new _ _ _ (by simp), by rw [← hw0]; exact (by repeat (first | exact Below.refl _ _ | assumption | refine Below.setCell ?_ (by first | (simp; done) | (simp; omega)) _ | refine belowDrewN ?_ _ | refine Below.drew ?_ | refine Below.alloc ?_ (by first | (simp; done) | (simp; omega)) _))⟩)
  have HW0 := Lib.hid hw0
  clear hw0
  have p3 := (show w0.cell? ⟨w.heap.size, 3, none⟩ = some (.int .i64 F) from PA.out.a.cell 3)
  have p3' := (show w0.cell? ⟨w.heap.size + 1, 3, none⟩ = some (.int .i64 F') from PA.out.b.cell 3)
  by_cases hF : F = F'
  case neg =>
    have hf : Hid (false = res) := by unfold Hid; rw [hR.out, decide_eq_false hF]; rfl
    have t0 : (F != F') = true := by simpa using hF
    clear hF
    go_enter Try.func38, Try.ntmps38
    go_upto_region 1 with fail
    rw [HW0.out]
    go_wp2_with fail
    go_ret
    exact ⟨ret_bool hf.out, PA.out.low⟩
  rw [decide_eq_true hF, Bool.true_and] at hR
  have t0 : (F != F') = false := by simpa using hF
  clear hF
  have p4 := (show w0.cell? ⟨w.heap.size, 4, none⟩ = some (.int .i64 O) from PA.out.a.cell 4)
  have p4' := (show w0.cell? ⟨w.heap.size + 1, 4, none⟩ = some (.int .i64 O') from PA.out.b.cell 4)
  by_cases hO : O = O'
  case neg =>
    have hf : Hid (false = res) := by unfold Hid; rw [hR.out, decide_eq_false hO]; rfl
    have t1 : (O != O') = true := by simpa using hO
    clear hO
    go_enter Try.func38, Try.ntmps38
    go_upto_region 1 with fail
    rw [HW0.out]
    go_wp2_with fail
    go_ret
    exact ⟨ret_bool hf.out, PA.out.low⟩
  rw [decide_eq_true hO, Bool.true_and] at hR
  have t1 : (O != O') = false := by simpa using hO
  clear hO
  have p0 := (show w0.cell? ⟨w.heap.size, 0, none⟩ = some (.slice AE nE cE) from PA.out.a.cell 0)
  have p0' := (show w0.cell? ⟨w.heap.size + 1, 0, none⟩ = some (.slice AE' nE' cE') from PA.out.b.cell 0)
  by_cases hE : nE = nE'
  case neg =>
    have hf := Lib.hid (HLEN.out (fun h => hE h.1))
    have t2 : ((nE : Int) != (nE' : Int)) = true := bne_iff_ne.2 (by omega)
    have t2' : (nE != nE') = true := by simpa using hE
    clear hE
    go_enter Try.func38, Try.ntmps38
    go_upto_region 1 with fail
    rw [HW0.out]
    go_wp2_with fail
    go_ret
    exact ⟨ret_bool hf.out.symm, PA.out.low⟩
  subst hE
  have t2 : ((nE : Int) != (nE : Int)) = false := by simp
  have p1 := (show w0.cell? ⟨w.heap.size, 1, none⟩ = some (.slice AL nL cL) from PA.out.a.cell 1)
  have p1' := (show w0.cell? ⟨w.heap.size + 1, 1, none⟩ = some (.slice AL' nL' cL') from PA.out.b.cell 1)
  by_cases hL : nL = nL'
  case neg =>
    have hf := Lib.hid (HLEN.out (fun h => hL h.2.1))
    have t3 : ((nL : Int) != (nL' : Int)) = true := bne_iff_ne.2 (by omega)
    have t3' : (nL != nL') = true := by simpa using hL
    clear hL
    go_enter Try.func38, Try.ntmps38
    go_upto_region 1 with fail
    rw [HW0.out]
    go_wp2_with fail
    go_ret
    exact ⟨ret_bool hf.out.symm, PA.out.low⟩
  subst hL
  have t3 : ((nL : Int) != (nL : Int)) = false := by simp
  have p2 := (show w0.cell? ⟨w.heap.size, 2, none⟩ = some (.slice AG nG cG) from PA.out.a.cell 2)
  have p2' := (show w0.cell? ⟨w.heap.size + 1, 2, none⟩ = some (.slice AG' nG' cG') from PA.out.b.cell 2)
  by_cases hG : nG = nG'
  case neg =>
    have hf := Lib.hid (HLEN.out (fun h => hG h.2.2))
    have t4 : ((nG : Int) != (nG' : Int)) = true := bne_iff_ne.2 (by omega)
    have t4' : (nG != nG') = true := by simpa using hG
    clear hG
    go_enter Try.func38, Try.ntmps38
    go_upto_region 1 with fail
    rw [HW0.out]
    go_wp2_with fail
    go_ret
    exact ⟨ret_bool hf.out.symm, PA.out.low⟩
  subst hG
  have t4 : ((nG : Int) != (nG : Int)) = false := by simp
  obtain ⟨r2, hr2⟩ : ∃ r2, (decide (x.Loads = y.Loads) && decide (x.Grades = y.Grades)) = r2 := ⟨_, rfl⟩
  rw [hr2] at hR
  have HR2 := Lib.hid hr2
  have HR1 := Lib.hid (show (decide (x.Ends.drop 0 = y.Ends.drop 0) && r2) = res from hR.out.symm)
  clear hr2 hR HLEN
  go_enter Try.func38, Try.ntmps38
  go_upto_region 1 with fail
  rw [HW0.out]
  go_wp2_with fail
  clear t0 t1 t2 t3 t4 p0 p0' p1 p1' p2 p2' p3 p3' p4 p4' HW0
  go_loopw [5] (fun s5 wr => ∃ k : Nat, k ≤ nE ∧ s5 = .int .i64 k ∧ Hid ((decide (x.Ends.drop k = y.Ends.drop k) && r2) = res) ∧ Hid (Pair w wr #[.slice AE nE cE, .slice AL nL cL, .slice AG nG cG, .int .i64 F, .int .i64 O] #[.slice AE' nE cE', .slice AL' nL cL', .slice AG' nG cG', .int .i64 F', .int .i64 O'])) (fun s5 _ => nE - (intOf s5).toNat)
  case atStart => exact ⟨0, Nat.zero_le _, rfl, HR1, PA⟩
  case round =>
    obtain ⟨k, hk, rfl, hr, hP⟩ := hrel
    have p0 := (show wr.cell? ⟨w.heap.size, 0, none⟩ = some (.slice AE nE cE) from hP.out.a.cell 0)
    have p0' := (show wr.cell? ⟨w.heap.size + 1, 0, none⟩ = some (.slice AE' nE cE') from hP.out.b.cell 0)
    by_cases hlt : k < nE
    · have t0 : decide (k < nE) = true := decide_eq_true hlt
      have hs := Lib.hid (HST1.out k hlt hlt)
      obtain ⟨ab, ao, rfl, hab, hac⟩ := HE.out (by rw [HNE.out]; omega)
      obtain ⟨bb, bo, rfl, hbb, hbc⟩ := HE'.out (by rw [HNE'.out]; omega)
      have c0 := oldCell hP.out.low hab (hac k (by rw [HNE.out]; exact hlt))
      have c1 := oldCell hP.out.low hbb (hbc k (by rw [HNE'.out]; exact hlt))
      have z1 : (k : Int) < (nE : Int) := by omega
      have z2 : (0 : Int) ≤ (k : Int) := by omega
      clear hac hbc
      generalize pick x.Ends k = a at *
      generalize pick y.Ends k = b at *
      by_cases hq : a = b
      · have hq' : (a != b) = false := by simp [hq]
        have hn : Hid ((decide (x.Ends.drop (k + 1) = y.Ends.drop (k + 1)) && r2) = res) := by unfold Hid; rw [← hr.out]; congr 1; exact decide_eq_decide.2 ⟨fun h => hs.out.2 ⟨hq, h⟩, fun h => (hs.out.1 h).2⟩
        clear hq
        go_wp2_with fail
        go_quiet (fail)
        go_wp2_with fail
        go_roundw
        case rel => exact ⟨k + 1, hlt, by go_num, hn, hP.out.under (belowDrewN (Below.refl _ _) _)⟩
        case measure => simp [intOf]; omega
      · have hq' : (a != b) = true := by simpa using hq
        have hf : Hid (false = res) := by unfold Hid; rw [← hr.out, decide_eq_false (fun h => hq (hs.out.1 h).1)]; rfl
        clear hq
        go_wp2_with fail
        go_quiet (fail)
        go_wp2_with fail
        go_ret
        exact ⟨ret_bool hf.out, belowDrewN hP.out.low _⟩
    · obtain rfl : nE = k := by omega
      have t0 : decide (nE < nE) = false := decide_eq_false hlt
      have hr' : Hid ((decide (x.Loads.drop 0 = y.Loads.drop 0) && decide (x.Grades = y.Grades)) = res) := by
        have h0 := hr.out
        rw [List.drop_eq_nil_of_le (show x.Ends.length ≤ nE by rw [HNE.out]; omega), List.drop_eq_nil_of_le (show y.Ends.length ≤ nE by rw [HNE'.out]; omega), decide_eq_true rfl, Bool.true_and] at h0
        unfold Hid
        rw [← h0]
        exact HR2.out
      clear hr HR2 hlt hk
      go_wp2_with fail
      clear p0 p0' t0
      have HP1 := Lib.hid hP.out
      go_loopw [6] (fun s6 wr => ∃ k : Nat, k ≤ nL ∧ s6 = .int .i64 k ∧ Hid ((decide (x.Loads.drop k = y.Loads.drop k) && decide (x.Grades = y.Grades)) = res) ∧ Hid (Pair w wr #[.slice AE nE cE, .slice AL nL cL, .slice AG nG cG, .int .i64 F, .int .i64 O] #[.slice AE' nE cE', .slice AL' nL cL', .slice AG' nG cG', .int .i64 F', .int .i64 O'])) (fun s6 _ => nL - (intOf s6).toNat)
      case atStart => exact ⟨0, Nat.zero_le _, rfl, hr', HP1⟩
      case round =>
        obtain ⟨k, hk, rfl, hr, hP⟩ := hrel
        have p1 := (show wr.cell? ⟨w.heap.size, 1, none⟩ = some (.slice AL nL cL) from hP.out.a.cell 1)
        have p1' := (show wr.cell? ⟨w.heap.size + 1, 1, none⟩ = some (.slice AL' nL cL') from hP.out.b.cell 1)
        by_cases hlt : k < nL
        · have t0 : decide (k < nL) = true := decide_eq_true hlt
          have hs := Lib.hid (HST2.out k hlt hlt)
          obtain ⟨b, off, AI, AO, cI, cO, rfl, hb, hc⟩ := HL.out (by rw [HNL.out]; omega)
          obtain ⟨b', off', AI', AO', cI', cO', rfl, hb', hc'⟩ := HL'.out (by rw [HNL'.out]; omega)
          obtain ⟨c0, c1, k0, k1⟩ := hc k (by rw [HNL.out]; exact hlt)
          obtain ⟨c0', c1', k0', k1'⟩ := hc' k (by rw [HNL'.out]; exact hlt)
          obtain ⟨n0, n1⟩ := HX4.out k hlt
          obtain ⟨n0', n1'⟩ := HY4.out k hlt
          have HL1 := Lib.hid (fun W (hW : Below w.heap.size w W) => ref02_SameLine (ld x.Loads k).In (ld y.Loads k).In _ _ W ⟨AI k, cI k, rfl, k0.up hW hW.size⟩ ⟨AI' k, cI' k, rfl, k0'.up hW hW.size⟩ n0 n0')
          have HL2 := Lib.hid (fun W (hW : Below w.heap.size w W) => ref02_SameLine (ld x.Loads k).Out (ld y.Loads k).Out _ _ W ⟨AO k, cO k, rfl, k1.up hW hW.size⟩ ⟨AO' k, cO' k, rfl, k1'.up hW hW.size⟩ n1 n1')
          have HC := Lib.hid (And.intro (And.intro c0 c1) (And.intro c0' c1'))
          clear hc hc' c0 c1 c0' c1' k0 k1 k0' k1' n0 n1 n0' n1'
          obtain ⟨q1, hq1⟩ : ∃ q1, decide ((ld x.Loads k).In = (ld y.Loads k).In) = q1 := ⟨_, rfl⟩
          obtain ⟨q2, hq2⟩ : ∃ q2, decide ((ld x.Loads k).Out = (ld y.Loads k).Out) = q2 := ⟨_, rfl⟩
          rw [hq1] at HL1
          rw [hq2] at HL2
          have hn : q1 = true → q2 = true → Hid ((decide (x.Loads.drop (k + 1) = y.Loads.drop (k + 1)) && decide (x.Grades = y.Grades)) = res) := fun e1 e2 => by
            subst hq1 hq2
            unfold Hid
            rw [← hr.out]
            congr 1
            exact decide_eq_decide.2 ⟨fun h => hs.out.2 ⟨of_decide_eq_true e1, of_decide_eq_true e2, h⟩, fun h => (hs.out.1 h).2.2⟩
          have hf : q1 = false ∨ q2 = false → Hid (false = res) := fun e => by
            subst hq1 hq2
            unfold Hid
            rw [← hr.out, decide_eq_false (fun h => ?_)]
            · rfl
            · rcases e with e | e
              · exact of_decide_eq_false e (hs.out.1 h).1
              · exact of_decide_eq_false e (hs.out.1 h).2.1
          have HN := Lib.hid hn
          have HF := Lib.hid hf
          clear hq1 hq2 hn hf hs
          generalize hkI : (ld x.Loads k).In = kI at *
          generalize hkO : (ld x.Loads k).Out = kO at *
          generalize hkI' : (ld y.Loads k).In = kI' at *
          generalize hkO' : (ld y.Loads k).Out = kO' at *
          clear hkI hkO hkI' hkO'
          have z1 : (k : Int) < (nL : Int) := by omega
          have z2 : (0 : Int) ≤ (k : Int) := by omega
          have hlb : b < wr.heap.size := Nat.lt_of_lt_of_le hb hP.out.low.size
          have hlb' : b' < wr.heap.size := Nat.lt_of_lt_of_le hb' hP.out.low.size
          have HSS := Lib.hid (fun (w' : World) (h : Pair w w' #[.slice AE nE cE, .slice (some ⟨b, off, none⟩) nL cL, .slice AG nG cG, .int .i64 F, .int .i64 O] #[.slice AE' nE cE', .slice (some ⟨b', off', none⟩) nL cL', .slice AG' nG cG', .int .i64 F', .int .i64 O']) => (⟨⟨h.a.cell 1, h.b.cell 1⟩, ⟨oldCell h.low hb HC.out.1.1, oldCell h.low hb HC.out.1.2⟩, ⟨oldCell h.low hb' HC.out.2.1, oldCell h.low hb' HC.out.2.2⟩⟩ : (w'.cell? ⟨w.heap.size, 1, none⟩ = some (.slice (some ⟨b, off, none⟩) nL cL) ∧ w'.cell? ⟨w.heap.size + 1, 1, none⟩ = some (.slice (some ⟨b', off', none⟩) nL cL')) ∧ (w'.cell? ⟨b, off + k * 2, none⟩ = some (.slice (AI k) kI.length (cI k)) ∧ w'.cell? ⟨b, off + k * 2 + 1, none⟩ = some (.slice (AO k) kO.length (cO k))) ∧ (w'.cell? ⟨b', off' + k * 2, none⟩ = some (.slice (AI' k) kI'.length (cI' k)) ∧ w'.cell? ⟨b', off' + k * 2 + 1, none⟩ = some (.slice (AO' k) kO'.length (cO' k)))))
          have HPD : Hid (Pair w wr.drew #[.slice AE nE cE, .slice (some ⟨b, off, none⟩) nL cL, .slice AG nG cG, .int .i64 F, .int .i64 O] #[.slice AE' nE cE', .slice (some ⟨b', off', none⟩) nL cL', .slice AG' nG cG', .int .i64 F', .int .i64 O']) := hP.out.under (Below.refl _ _).drew
          cases q1
          · have hf := Lib.hid (HF.out (.inl rfl))
            clear HN HF HL2
            go_wp2_with fail
            have SS0 := HSS.out _ HPD.out
            refine AnyBut.begin (S := fun w' => (w'.cell? ⟨w.heap.size, 1, none⟩ = some (.slice (some ⟨b, off, none⟩) nL cL) ∧ w'.cell? ⟨w.heap.size + 1, 1, none⟩ = some (.slice (some ⟨b', off', none⟩) nL cL')) ∧ (w'.cell? ⟨b, off + k * 2, none⟩ = some (.slice (AI k) kI.length (cI k)) ∧ w'.cell? ⟨b, off + k * 2 + 1, none⟩ = some (.slice (AO k) kO.length (cO k))) ∧ (w'.cell? ⟨b', off' + k * 2, none⟩ = some (.slice (AI' k) kI'.length (cI' k)) ∧ w'.cell? ⟨b', off' + k * 2 + 1, none⟩ = some (.slice (AO' k) kO'.length (cO' k)))) (z := 100) mixed ?_
            refine AnyBut.takeD 0 72 (v := .pointer (some ⟨w.heap.size, 1, none⟩)) rfl rfl (by decide +kernel) (fun _ _ _ h => h) SS0 (Or.inl ⟨by rfl, fun w' hw' => by (obtain ⟨⟨s0, s1⟩, ⟨s2, s3⟩, ⟨s4, s5⟩⟩ := hw'; go_simp)⟩) ?_
            simp only [List.setIfInBounds_toArray, List.set_cons_zero, List.set_cons_succ]
            refine AnyBut.takeD 1 73 (v := .slice (some ⟨b, off, none⟩) nL cL) rfl rfl (by decide +kernel) (fun _ _ _ h => h) SS0 (Or.inl ⟨by rfl, fun w' hw' => by (obtain ⟨⟨s0, s1⟩, ⟨s2, s3⟩, ⟨s4, s5⟩⟩ := hw'; go_simp)⟩) ?_
            simp only [List.setIfInBounds_toArray, List.set_cons_zero, List.set_cons_succ]
            refine AnyBut.takeD 2 74 (v := .int .i64 k) rfl rfl (by decide +kernel) (fun _ _ _ h => h) SS0 (Or.inl ⟨by rfl, fun w' hw' => by (obtain ⟨⟨s0, s1⟩, ⟨s2, s3⟩, ⟨s4, s5⟩⟩ := hw'; go_simp)⟩) ?_
            simp only [List.setIfInBounds_toArray, List.set_cons_zero, List.set_cons_succ]
            refine AnyBut.takeD 3 75 (v := .pointer (some ⟨b, off + k * 2, none⟩)) rfl rfl (by decide +kernel) (fun _ _ _ h => h) SS0 (Or.inl ⟨by rfl, fun w' hw' => by (obtain ⟨⟨s0, s1⟩, ⟨s2, s3⟩, ⟨s4, s5⟩⟩ := hw'; go_simp)⟩) ?_
            simp only [List.setIfInBounds_toArray, List.set_cons_zero, List.set_cons_succ]
            refine AnyBut.takeD 4 76 (v := .pointer (some ⟨b, off + k * 2, none⟩)) rfl rfl (by decide +kernel) (fun _ _ _ h => h) SS0 (Or.inl ⟨by rfl, fun w' hw' => by (obtain ⟨⟨s0, s1⟩, ⟨s2, s3⟩, ⟨s4, s5⟩⟩ := hw'; go_simp)⟩) ?_
            simp only [List.setIfInBounds_toArray, List.set_cons_zero, List.set_cons_succ]
            refine AnyBut.takeD 5 77 (v := .agg #[.slice (AI k) kI.length (cI k)]) rfl rfl (by decide +kernel) (fun _ _ _ h => h) SS0 (Or.inl ⟨by rfl, fun w' hw' => by (obtain ⟨⟨s0, s1⟩, ⟨s2, s3⟩, ⟨s4, s5⟩⟩ := hw'; go_simp)⟩) ?_
            simp only [List.setIfInBounds_toArray, List.set_cons_zero, List.set_cons_succ]
            refine AnyBut.takeD 6 78 (v := .pointer (some ⟨w.heap.size + 1, 1, none⟩)) rfl rfl (by decide +kernel) (fun _ _ _ h => h) SS0 (Or.inl ⟨by rfl, fun w' hw' => by (obtain ⟨⟨s0, s1⟩, ⟨s2, s3⟩, ⟨s4, s5⟩⟩ := hw'; go_simp)⟩) ?_
            simp only [List.setIfInBounds_toArray, List.set_cons_zero, List.set_cons_succ]
            refine AnyBut.takeD 7 79 (v := .slice (some ⟨b', off', none⟩) nL cL') rfl rfl (by decide +kernel) (fun _ _ _ h => h) SS0 (Or.inl ⟨by rfl, fun w' hw' => by (obtain ⟨⟨s0, s1⟩, ⟨s2, s3⟩, ⟨s4, s5⟩⟩ := hw'; go_simp)⟩) ?_
            simp only [List.setIfInBounds_toArray, List.set_cons_zero, List.set_cons_succ]
            refine AnyBut.takeD 8 80 (v := .int .i64 k) rfl rfl (by decide +kernel) (fun _ _ _ h => h) SS0 (Or.inl ⟨by rfl, fun w' hw' => by (obtain ⟨⟨s0, s1⟩, ⟨s2, s3⟩, ⟨s4, s5⟩⟩ := hw'; go_simp)⟩) ?_
            simp only [List.setIfInBounds_toArray, List.set_cons_zero, List.set_cons_succ]
            refine AnyBut.takeD 9 81 (v := .pointer (some ⟨b', off' + k * 2, none⟩)) rfl rfl (by decide +kernel) (fun _ _ _ h => h) SS0 (Or.inl ⟨by rfl, fun w' hw' => by (obtain ⟨⟨s0, s1⟩, ⟨s2, s3⟩, ⟨s4, s5⟩⟩ := hw'; go_simp)⟩) ?_
            simp only [List.setIfInBounds_toArray, List.set_cons_zero, List.set_cons_succ]
            refine AnyBut.takeD 10 82 (v := .pointer (some ⟨b', off' + k * 2, none⟩)) rfl rfl (by decide +kernel) (fun _ _ _ h => h) SS0 (Or.inl ⟨by rfl, fun w' hw' => by (obtain ⟨⟨s0, s1⟩, ⟨s2, s3⟩, ⟨s4, s5⟩⟩ := hw'; go_simp)⟩) ?_
            simp only [List.setIfInBounds_toArray, List.set_cons_zero, List.set_cons_succ]
            refine AnyBut.takeD 11 83 (v := .agg #[.slice (AI' k) kI'.length (cI' k)]) rfl rfl (by decide +kernel) (fun _ _ _ h => h) SS0 (Or.inl ⟨by rfl, fun w' hw' => by (obtain ⟨⟨s0, s1⟩, ⟨s2, s3⟩, ⟨s4, s5⟩⟩ := hw'; go_simp)⟩) ?_
            simp only [List.setIfInBounds_toArray, List.set_cons_zero, List.set_cons_succ]
            refine AnyBut.only (i := 12) (by decide +kernel) rfl rfl (fun K hK => ?_)
            go_simp
            refine (HL1.out _ HPD.out.low).mono ?_
            rintro e w5 ⟨rfl, hb5⟩
            have HW5 := Lib.hid (HPD.out.under hb5)
            have SS1 := HSS.out _ HW5.out
            refine hK _ _ (fun _ => SS1) ?_
            clear hK hb5
            refine AnyBut.takeD 13 85 (v := .bool true) rfl rfl (by decide +kernel) (fun _ _ _ h => h) SS1 (Or.inl ⟨by rfl, fun w' hw' => by (obtain ⟨⟨s0, s1⟩, ⟨s2, s3⟩, ⟨s4, s5⟩⟩ := hw'; go_simp)⟩) ?_
            simp only [List.setIfInBounds_toArray, List.set_cons_zero, List.set_cons_succ]
            refine AnyBut.takeD 14 86 (v := .bool true) rfl rfl (by decide +kernel) (fun _ _ _ h => h) SS1 (Or.inl ⟨by rfl, fun w' hw' => by (obtain ⟨⟨s0, s1⟩, ⟨s2, s3⟩, ⟨s4, s5⟩⟩ := hw'; go_simp)⟩) ?_
            simp only [List.setIfInBounds_toArray, List.set_cons_zero, List.set_cons_succ]
            refine AnyBut.takeD 15 87 (v := undef) rfl rfl (by decide +kernel) (fun _ _ _ h => h) SS1 (Or.inr ⟨by rfl, rfl⟩) ?_
            simp only [List.setIfInBounds_toArray, List.set_cons_zero, List.set_cons_succ]
            refine AnyBut.takeD 16 88 (v := undef) rfl rfl (by decide +kernel) (fun _ _ _ h => h) SS1 (Or.inr ⟨by rfl, rfl⟩) ?_
            simp only [List.setIfInBounds_toArray, List.set_cons_zero, List.set_cons_succ]
            refine AnyBut.takeD 17 89 (v := undef) rfl rfl (by decide +kernel) (fun _ _ _ h => h) SS1 (Or.inr ⟨by rfl, rfl⟩) ?_
            simp only [List.setIfInBounds_toArray, List.set_cons_zero, List.set_cons_succ]
            refine AnyBut.takeD 18 90 (v := undef) rfl rfl (by decide +kernel) (fun _ _ _ h => h) SS1 (Or.inr ⟨by rfl, rfl⟩) ?_
            simp only [List.setIfInBounds_toArray, List.set_cons_zero, List.set_cons_succ]
            refine AnyBut.takeD 19 91 (v := undef) rfl rfl (by decide +kernel) (fun _ _ _ h => h) SS1 (Or.inr ⟨by rfl, rfl⟩) ?_
            simp only [List.setIfInBounds_toArray, List.set_cons_zero, List.set_cons_succ]
            refine AnyBut.takeD 20 92 (v := undef) rfl rfl (by decide +kernel) (fun _ _ _ h => h) SS1 (Or.inr ⟨by rfl, rfl⟩) ?_
            simp only [List.setIfInBounds_toArray, List.set_cons_zero, List.set_cons_succ]
            refine AnyBut.takeD 21 93 (v := undef) rfl rfl (by decide +kernel) (fun _ _ _ h => h) SS1 (Or.inr ⟨by rfl, rfl⟩) ?_
            simp only [List.setIfInBounds_toArray, List.set_cons_zero, List.set_cons_succ]
            refine AnyBut.takeD 22 94 (v := undef) rfl rfl (by decide +kernel) (fun _ _ _ h => h) SS1 (Or.inr ⟨by rfl, rfl⟩) ?_
            simp only [List.setIfInBounds_toArray, List.set_cons_zero, List.set_cons_succ]
            refine AnyBut.takeD 23 95 (v := undef) rfl rfl (by decide +kernel) (fun _ _ _ h => h) SS1 (Or.inr ⟨by rfl, rfl⟩) ?_
            simp only [List.setIfInBounds_toArray, List.set_cons_zero, List.set_cons_succ]
            refine AnyBut.takeD 24 96 (v := undef) rfl rfl (by decide +kernel) (fun _ _ _ h => h) SS1 (Or.inr ⟨by rfl, rfl⟩) ?_
            simp only [List.setIfInBounds_toArray, List.set_cons_zero, List.set_cons_succ]
            refine AnyBut.takeD 25 97 (v := undef) rfl rfl (by decide +kernel) (fun _ _ _ h => h) SS1 (Or.inr ⟨by rfl, rfl⟩) ?_
            simp only [List.setIfInBounds_toArray, List.set_cons_zero, List.set_cons_succ]
            refine AnyBut.takeD 26 98 (v := undef) rfl rfl (by decide +kernel) (fun _ _ _ h => h) SS1 (Or.inr ⟨by rfl, rfl⟩) ?_
            simp only [List.setIfInBounds_toArray, List.set_cons_zero, List.set_cons_succ]
            refine AnyBut.takeD 27 99 (v := undef) rfl rfl (by decide +kernel) (fun _ _ _ h => h) SS1 (Or.inr ⟨by rfl, rfl⟩) ?_
            simp only [List.setIfInBounds_toArray, List.set_cons_zero, List.set_cons_succ]
            refine AnyBut.takeD 28 100 (v := undef) rfl rfl (by decide +kernel) (fun _ _ _ h => h) SS1 (Or.inr ⟨by rfl, rfl⟩) ?_
            simp only [List.setIfInBounds_toArray, List.set_cons_zero, List.set_cons_succ]
            refine AnyBut.takeD 29 101 (v := .bool true) rfl rfl (by decide +kernel) (fun _ _ _ h => h) SS1 (Or.inl ⟨by rfl, fun w' hw' => by (obtain ⟨⟨s0, s1⟩, ⟨s2, s3⟩, ⟨s4, s5⟩⟩ := hw'; go_simp)⟩) ?_
            simp only [List.setIfInBounds_toArray, List.set_cons_zero, List.set_cons_succ]
            refine AnyBut.done (by decide +kernel) ?_
            go_wp2_with fail
            go_ret
            exact ⟨ret_bool hf.out, HW5.out.low⟩
          · cases q2
            · have hf := Lib.hid (HF.out (.inr rfl))
              clear HN HF
              go_wp2_with fail
              go_region_held3 (fun w' => (w'.cell? ⟨w.heap.size, 1, none⟩ = some (.slice (some ⟨b, off, none⟩) nL cL) ∧ w'.cell? ⟨w.heap.size + 1, 1, none⟩ = some (.slice (some ⟨b', off', none⟩) nL cL')) ∧ (w'.cell? ⟨b, off + k * 2, none⟩ = some (.slice (AI k) kI.length (cI k)) ∧ w'.cell? ⟨b, off + k * 2 + 1, none⟩ = some (.slice (AO k) kO.length (cO k))) ∧ (w'.cell? ⟨b', off' + k * 2, none⟩ = some (.slice (AI' k) kI'.length (cI' k)) ∧ w'.cell? ⟨b', off' + k * 2 + 1, none⟩ = some (.slice (AO' k) kO'.length (cO' k))))
                (first | exact HSS.out _ HPD.out | exact HSS.out _ X5.out | exact HSS.out _ X6.out)
                (first
                  | (go_at_call 64; (with_reducible refine (HL1.out _ HPD.out.low).mono ?_); rintro e w5 ⟨rfl, hb5⟩; have X5 := Lib.hid (HPD.out.under hb5); clear hb5)
                  | (go_at_call 64; (with_reducible refine (HL2.out _ X5.out.low).mono ?_); rintro e w6 ⟨rfl, hb6⟩; have X6 := Lib.hid (X5.out.under hb6); clear hb6)
                  | fail)
              go_wp2_with fail
              go_ret
              exact ⟨ret_bool hf.out, X6.out.low⟩
            · have hn := Lib.hid (HN.out rfl rfl)
              clear HN HF
              go_wp2_with fail
              go_region_held3 (fun w' => (w'.cell? ⟨w.heap.size, 1, none⟩ = some (.slice (some ⟨b, off, none⟩) nL cL) ∧ w'.cell? ⟨w.heap.size + 1, 1, none⟩ = some (.slice (some ⟨b', off', none⟩) nL cL')) ∧ (w'.cell? ⟨b, off + k * 2, none⟩ = some (.slice (AI k) kI.length (cI k)) ∧ w'.cell? ⟨b, off + k * 2 + 1, none⟩ = some (.slice (AO k) kO.length (cO k))) ∧ (w'.cell? ⟨b', off' + k * 2, none⟩ = some (.slice (AI' k) kI'.length (cI' k)) ∧ w'.cell? ⟨b', off' + k * 2 + 1, none⟩ = some (.slice (AO' k) kO'.length (cO' k))))
                (first | exact HSS.out _ HPD.out | exact HSS.out _ X5.out | exact HSS.out _ X6.out)
                (first
                  | (go_at_call 64; (with_reducible refine (HL1.out _ HPD.out.low).mono ?_); rintro e w5 ⟨rfl, hb5⟩; have X5 := Lib.hid (HPD.out.under hb5); clear hb5)
                  | (go_at_call 64; (with_reducible refine (HL2.out _ X5.out.low).mono ?_); rintro e w6 ⟨rfl, hb6⟩; have X6 := Lib.hid (X5.out.under hb6); clear hb6)
                  | fail)
              go_wp2_with fail
              go_roundw
              case rel => exact ⟨k + 1, hlt, by go_num, hn.out, X6⟩
              case measure => simp [intOf]; omega
        · obtain rfl : nL = k := by omega
          have t0 : decide (nL < nL) = false := decide_eq_false hlt
          have hr' : Hid (decide (x.Grades.drop 0 = y.Grades.drop 0) = res) := by
            have h0 := hr.out
            rw [List.drop_eq_nil_of_le (show x.Loads.length ≤ nL by rw [HNL.out]; omega), List.drop_eq_nil_of_le (show y.Loads.length ≤ nL by rw [HNL'.out]; omega), decide_eq_true rfl, Bool.true_and] at h0
            exact h0
          clear hr hlt hk
          go_wp2_with fail
          clear p1 p1' t0
          have HP2 := Lib.hid hP.out
          go_loopw [7] (fun s7 wr => ∃ k : Nat, k ≤ nG ∧ s7 = .int .i64 k ∧ Hid (decide (x.Grades.drop k = y.Grades.drop k) = res) ∧ Hid (Pair w wr #[.slice AE nE cE, .slice AL nL cL, .slice AG nG cG, .int .i64 F, .int .i64 O] #[.slice AE' nE cE', .slice AL' nL cL', .slice AG' nG cG', .int .i64 F', .int .i64 O'])) (fun s7 _ => nG - (intOf s7).toNat)
          case atStart => exact ⟨0, Nat.zero_le _, rfl, hr', HP2⟩
          case round =>
            obtain ⟨k, hk, rfl, hr, hP⟩ := hrel
            have p2 := (show wr.cell? ⟨w.heap.size, 2, none⟩ = some (.slice AG nG cG) from hP.out.a.cell 2)
            have p2' := (show wr.cell? ⟨w.heap.size + 1, 2, none⟩ = some (.slice AG' nG cG') from hP.out.b.cell 2)
            by_cases hlt : k < nG
            · have t0 : decide (k < nG) = true := decide_eq_true hlt
              have hs := Lib.hid (HST3.out k hlt hlt)
              obtain ⟨b, off, rfl, hb, hc⟩ := HG.out (by rw [HNG.out]; omega)
              obtain ⟨b', off', rfl, hb', hc'⟩ := HG'.out (by rw [HNG'.out]; omega)
              obtain ⟨c0, c1, c2, c3, c4⟩ := hc k (by rw [HNG.out]; exact hlt)
              obtain ⟨e0, e1, e2, e3, e4⟩ := hc' k (by rw [HNG'.out]; exact hlt)
              replace c0 := oldCell hP.out.low hb c0
              replace c1 := oldCell hP.out.low hb c1
              replace c2 := oldCell hP.out.low hb c2
              replace c3 := oldCell hP.out.low hb c3
              replace c4 := oldCell hP.out.low hb c4
              replace e0 := oldCell hP.out.low hb' e0
              replace e1 := oldCell hP.out.low hb' e1
              replace e2 := oldCell hP.out.low hb' e2
              replace e3 := oldCell hP.out.low hb' e3
              replace e4 := oldCell hP.out.low hb' e4
              have z1 : (k : Int) < (nG : Int) := by omega
              have z2 : (0 : Int) ≤ (k : Int) := by omega
              clear hc hc'
              generalize gd x.Grades k = ga at *
              generalize gd y.Grades k = gb at *
              obtain ⟨g0, g1, g2, g3, g4⟩ := ga
              obtain ⟨f0, f1, f2, f3, f4⟩ := gb
              dsimp only at c0 c1 c2 c3 c4 e0 e1 e2 e3 e4
              by_cases hq : g0 = f0 ∧ g1 = f1 ∧ g2 = f2 ∧ g3 = f3 ∧ g4 = f4
              · have hn : Hid (decide (x.Grades.drop (k + 1) = y.Grades.drop (k + 1)) = res) := by unfold Hid; rw [← hr.out]; exact decide_eq_decide.2 ⟨fun h => hs.out.2 ⟨hq, h⟩, fun h => (hs.out.1 h).2⟩
                have hq' : (!(g0 == f0 && (g1 == f1 && (g2 == f2 && (g3 == f3 && g4 == f4))))) = false := by simp [hq]
                clear hq hs
                go_wp2_with fail
                go_quiet (fail)
                go_wp2_with fail
                go_roundw
                case rel => exact ⟨k + 1, hlt, by go_num, hn.out, hP.out.under (belowDrewN (Below.refl _ _) _)⟩
                case measure => simp [intOf]; omega
              · have hf : Hid (false = res) := by unfold Hid; rw [← hr.out, decide_eq_false (fun h => hq (hs.out.1 h).1)]
                have hq' : (!(g0 == f0 && (g1 == f1 && (g2 == f2 && (g3 == f3 && g4 == f4))))) = true := by
                  rw [Bool.not_eq_true', Bool.eq_false_iff]
                  intro h
                  simp only [Bool.and_eq_true, beq_iff_eq] at h
                  exact hq h
                clear hq hs
                go_wp2_with fail
                go_quiet (fail)
                go_wp2_with fail
                go_ret
                exact ⟨ret_bool hf.out, belowDrewN hP.out.low _⟩
            · obtain rfl : nG = k := by omega
              have t0 : decide (nG < nG) = false := decide_eq_false hlt
              have hf : Hid (true = res) := by
                unfold Hid
                rw [← hr.out, List.drop_eq_nil_of_le (show x.Grades.length ≤ nG by rw [HNG.out]; omega), List.drop_eq_nil_of_le (show y.Grades.length ≤ nG by rw [HNG'.out]; omega)]
                rfl
              go_wp2_with fail
              go_ret
              exact ⟨ret_bool hf.out, hP.out.low⟩

end Go.Proofs.Ytannipfohicpmaa

/- Walks of the package casing: the search for the best choice. -/
namespace Mpl
def sumCost (j : Job) (l : List Int) : Int := sumFrom (costOf j l) 0 l.length
/-- one choice more -/
def better (j : Job) (b : Option (List Int)) (l : List Int) : Option (List Int) :=
  if (bearsFrom j l 0 l.length).1 < 0 then (match b with | none => some l | some k => if sumCost j l < sumCost j k then some l else some k) else b
/-- all choices that begin with so, and have d more grades -/
def explore (j : Job) : Nat → List Int → Option (List Int) → Option (List Int)
  | 0, so, b => better j b so
  | d + 1, so, b => (List.range j.Grades.length).foldl (fun b (g : Nat) => explore j d (so ++ [(g : Int)]) b) b
def chooseOf (j : Job) : Option (List Int) := if checkJob j = 0 then explore j j.Ends.length [] none else none
end Mpl
namespace Go.Proofs.Ytannipfohicpmaa
open Go.RowKit Go.Shelf Mpl

/-- the best choice so far, in memory -/
def BestOk (W : World) (base : Nat) (a : Option Addr) (n cap : Nat) (c : Int) (j : Job) (b : Option (List Int)) : Prop :=
  match b with
  | none => a = none ∧ n = 0 ∧ cap = 0
  | some l => a.isNone = false ∧ l.length = n ∧ W.ownsRow base 3 1 (.slice a n cap) n (l.map (Value.int .i64)) ∧ c = sumCost j l

/-- the state of the search: N is where its variables begin -/
structure ChSt (w : World) (M : Nat) (jc : Array Value) (j : Job) (W : World) (so : List Int) (b : Option (List Int)) (vs : Value) (a : Option Addr) (n cap : Nat) (c : Int) : Prop where
  job : Box W w.heap.size 36 jc
  best : Box W (M) 89 #[.slice a n cap, .int .i64 c]
  bvar : Box W (M + 1) 87 #[.pointer (some ⟨M, 0, none⟩)]
  sov : Box W (M + 1 + 1) 37 #[vs]
  nxt : Box W (M + 1 + 1 + 1) 1 #[.func (.func 62) #[] #[.pointer (some ⟨M + 1 + 1, 0, none⟩), .pointer (some ⟨w.heap.size, 0, none⟩), .pointer (some ⟨M + 1, 0, none⟩), .pointer (some ⟨M + 1 + 1 + 1, 0, none⟩)]]
  own : W.ownsRow (M + 1 + 1 + 1 + 1) 3 1 vs so.length (so.map (Value.int .i64))
  ok : BestOk W (M + 1 + 1 + 1 + 1) a n cap c j b
  apart : (Value.slice a n cap).ownBlock = none ∨ (Value.slice a n cap).ownBlock ≠ vs.ownBlock
  low : Below w.heap.size w W
  lt : w.heap.size < M
  size : M + 1 + 1 + 1 + 1 ≤ W.heap.size
def Ch (w : World) (M : Nat) (jc : Array Value) (j : Job) (W : World) (so : List Int) (b : Option (List Int)) : Prop := ∃ vs a n cap c, ChSt w M jc j W so b vs a n cap c

theorem BestOk.keep {W W' : World} {base : Nat} {a : Option Addr} {n cap : Nat} {c : Int} {j : Job} {b : Option (List Int)} (h : BestOk W base a n cap c j b) (k : W.ownsRow base 3 1 (.slice a n cap) n (((b.getD []).map (Value.int .i64))) → W'.ownsRow base 3 1 (.slice a n cap) n (((b.getD []).map (Value.int .i64)))) : BestOk W' base a n cap c j b := by
  cases b with
  | none => exact h
  | some l => exact ⟨h.1, h.2.1, k h.2.2.1, h.2.2.2⟩

theorem ChSt.under {w W W' : World} {M : Nat} {jc : Array Value} {j : Job} {so : List Int} {b : Option (List Int)} {vs : Value} {a : Option Addr} {n cap : Nat} {c : Int} (h : ChSt w M jc j W so b vs a n cap c) (hb : Below W.heap.size W W') : ChSt w M jc j W' so b vs a n cap c :=
  ⟨h.job.under hb, h.best.under hb, h.bvar.under hb, h.sov.under hb, h.nxt.under hb, own_under h.own hb, h.ok.keep fun k => own_under k hb, h.apart, h.low.trans (hb.mono h.low.size), h.lt, Nat.le_trans h.size hb.size⟩
theorem ChSt.drew {w W : World} {M : Nat} {jc : Array Value} {j : Job} {so : List Int} {b : Option (List Int)} {vs : Value} {a : Option Addr} {n cap : Nat} {c : Int} (h : ChSt w M jc j W so b vs a n cap c) : ChSt w M jc j W.drew so b vs a n cap c := h.under (Below.refl _ W).drew

theorem own_ne_block {W W' : World} {base : Nat} {e : TypeId} {size : Nat} {v : Value} {n : Nat} {xs : List Value} {row : Option Nat} (h : W.ownsRow base e size v n xs) (hg : W.grownBy W' row) (hne : v.ownBlock = none ∨ v.ownBlock ≠ row) : W'.ownsRow base e size v n xs := by
  obtain ⟨h1, h2⟩ := h
  refine ⟨h1, ?_⟩
  rcases h2 with h2 | ⟨g, cap, cur, hv, hgg, hh, r⟩
  · exact .inl h2
  · refine .inr ⟨g, cap, cur, hv, hgg, (hg.block g (Array.getElem?_eq_some_iff.1 hh).1 ?_).trans hh, r⟩
    rcases hne with h | h
    · rw [hv] at h; cases h
    · rw [hv] at h; exact h

theorem Box.grown {w w' : World} {g : Nat} {t : TypeId} {cs : Array Value} {row : Option Nat} (h : Box w g t cs) (hb : w.grownBy w' row) (hg : some g ≠ row) : Box w' g t cs := (hb.block g h.lt hg).trans h

/-- behind an offer -/
theorem ChSt.offered {w W W' : World} {M : Nat} {jc : Array Value} {j : Job} {so : List Int} {b : Option (List Int)} {as' : Option Addr} {ns cs : Nat} {a : Option Addr} {n cap : Nat} {c : Int} (h : ChSt w M jc j W so b (.slice as' ns cs) a n cap c) (hbear : (bearsFrom j so 0 so.length).1 < 0)
    (hO : Offered W (M) (a.isNone || decide (sumCost j so < c)) (.slice a n cap) c (sumCost j so) so W') : Ch w M jc j W' so (better j b so) := by
  obtain ⟨hg, hF, hT⟩ := hO
  have hM := h.lt
  have hown : W'.ownsRow (M + 1 + 1 + 1 + 1) 3 1 (.slice as' ns cs) so.length (so.map (Value.int .i64)) := own_ne_block h.own hg (by
    rcases h.own.2 with ⟨h1, _⟩ | ⟨g, cap, cur, hv, hgg, _⟩
    · rw [h1]; exact .inl rfl
    · right
      rw [hv]
      simp [Value.ownBlock]
      omega)
  have hlow : Below w.heap.size w W' := h.low.trans ⟨hg.os, hg.tape, hg.output, hg.size, fun k hk => hg.block k (by have := h.size; omega) (by simp; omega)⟩
  have hsz := Nat.le_trans h.size hg.size
  unfold better
  rw [if_pos hbear]
  cases hw : (a.isNone || decide (sumCost j so < c))
  · have hbx := hF hw
    refine ⟨_, a, n, cap, c, h.job.grown hg (by intro he; injection he with he; omega), hbx, h.bvar.grown hg (by intro he; injection he with he; omega), h.sov.grown hg (by intro he; injection he with he; omega), h.nxt.grown hg (by intro he; injection he with he; omega), hown, ?_, h.apart, hlow, hM, hsz⟩
    have hok := h.ok
    simp only [Bool.or_eq_false_iff, decide_eq_false_iff_not] at hw
    cases b with
    | none =>
      have : a = none := hok.1
      rw [this] at hw
      simp at hw
    | some l =>
      show BestOk W' _ a n cap c j (if sumCost j so < sumCost j l then some so else some l)
      rw [if_neg (by rw [← hok.2.2.2]; exact hw.2)]
      refine hok.keep fun k => own_ne_block k hg ?_
      rcases k.2 with ⟨h1, _⟩ | ⟨g, cap, cur, hv, hgg, _⟩
      · rw [h1]; exact .inl rfl
      · right
        rw [hv]
        simp [Value.ownBlock]
        omega
  · obtain ⟨g, cap', hbx, hown'⟩ := hT hw
    refine ⟨_, some ⟨g, 0, none⟩, so.length, cap', sumCost j so, h.job.grown hg (by intro he; injection he with he; omega), hbx, h.bvar.grown hg (by intro he; injection he with he; omega), h.sov.grown hg (by intro he; injection he with he; omega), h.nxt.grown hg (by intro he; injection he with he; omega), hown, ?_, ?_, hlow, hM, hsz⟩
    · have hok := h.ok
      have hnew : BestOk W' (M + 1 + 1 + 1 + 1) (some ⟨g, 0, none⟩) so.length cap' (sumCost j so) j (some so) := ⟨rfl, rfl, own_le hown' h.size, rfl⟩
      cases b with
      | none => exact hnew
      | some l =>
        show BestOk W' _ _ _ _ _ j (if sumCost j so < sumCost j l then some so else some l)
        rw [if_pos]
        · exact hnew
        · rw [hok.1, Bool.false_or, decide_eq_true_eq] at hw
          rw [← hok.2.2.2]
          exact hw
    · right
      have hgl : W.heap.size ≤ g := by
        rcases hown'.2 with ⟨h1, _⟩ | ⟨g', cap, cur, hv, hgg, _⟩
        · cases h1
        · cases hv; exact hgg
      intro he
      have hlt := own_lt h.own g (by rw [← he]; rfl)
      omega

/-- one grade more, behind the store -/
theorem ChSt.push {w W W1 : World} {M : Nat} {jc : Array Value} {j : Job} {so : List Int} {b : Option (List Int)} {vs : Value} {a : Option Addr} {n cap : Nat} {c : Int} {x : Int} {g cap' : Nat} {o : Obj} (h : ChSt w M jc j W so b vs a n cap c)
    (hg : (W.alloc o).grownBy W1 vs.ownBlock) (ho : W1.ownsRow (M + 1 + 1 + 1 + 1) 3 1 (.slice (some ⟨g, 0, none⟩) (so.length + 1) cap') (so.length + 1) (so.map (Value.int .i64) ++ [.int .i64 x])) (hat : vs.ownBlock = some g ∨ g = W.heap.size + 1) :
    ChSt w M jc j (W1.setCell ⟨M + 1 + 1, 0, none⟩ (.slice (some ⟨g, 0, none⟩) (so.length + 1) cap')) (so ++ [x]) b (.slice (some ⟨g, 0, none⟩) (so.length + 1) cap') a n cap c := by
  have hM := h.lt
  have hvb : ∀ k, vs.ownBlock = some k → M + 1 + 1 + 1 + 1 ≤ k := fun k hk => (h.own.lt k hk).1
  have hne : ∀ k, k < M + 1 + 1 + 1 + 1 → some k ≠ vs.ownBlock := fun k hk he => by have := hvb k he.symm; omega
  have hB : Below (M + 1 + 1 + 1 + 1) W W1 := below_grown ((Below.refl _ W).alloc h.size o) (h.own.alloc o) hg (by have := h.size; simp; omega)
  refine ⟨(h.job.below hB (by omega)).far (by simp; omega) _, (h.best.below hB (by omega)).far (by simp; omega) _, (h.bvar.below hB (by omega)).far (by simp) _, by simpa using (h.sov.below hB (by omega)).set_ 0 (.slice (some ⟨g, 0, none⟩) (so.length + 1) cap'), (h.nxt.below hB (by omega)).far (by simp) _, ?_, ?_, ?_, ?_, hM, ?_⟩
  · have := own_far (p := ⟨M + 1 + 1, 0, none⟩) ho (by simp) (.slice (some ⟨g, 0, none⟩) (so.length + 1) cap')
    rw [List.length_append, List.map_append]
    exact this
  · exact h.ok.keep fun k => own_far (p := ⟨M + 1 + 1, 0, none⟩) (own_ne_block (k.alloc o) hg h.apart) (by simp) _
  · rcases h.apart with ha | ha
    · exact .inl ha
    · rcases hat with hat | hat
      · right; rw [hat] at ha; exact ha
      · cases hob : (Value.slice a n cap).ownBlock with
        | none => exact .inl rfl
        | some k =>
          right
          have hk : k < W.heap.size := by
            have hok := h.ok
            cases b with
            | none =>
              have : a = none := hok.1
              rw [this] at hob
              cases hob
            | some l => exact own_lt hok.2.2.1 k hob
          intro he
          have : k = g := by simpa [Value.ownBlock] using he
          omega
  · exact (h.low.trans (hB.mono (by omega))).setCell (p := ⟨M + 1 + 1, 0, none⟩) (by simp; omega) _
  · have := hB.size
    have := h.size
    simp
    omega

/-- the last grade taken away -/
theorem ChSt.pop {w W : World} {M : Nat} {jc : Array Value} {j : Job} {so : List Int} {x : Int} {b : Option (List Int)} {g m cap' : Nat} {a : Option Addr} {n cap : Nat} {c : Int} (h : ChSt w M jc j W (so ++ [x]) b (.slice (some ⟨g, 0, none⟩) m cap') a n cap c) :
    ChSt w M jc j (W.setCell ⟨M + 1 + 1, 0, none⟩ (.slice (some ⟨g, 0, none⟩) so.length cap')) so b (.slice (some ⟨g, 0, none⟩) so.length cap') a n cap c := by
  have hown := h.own
  have hM := h.lt
  rw [List.length_append, List.map_append] at hown
  have hm : m = so.length + 1 := by
    rcases hown.2 with ⟨h1, _⟩ | ⟨g', cap, cur, hv, _⟩
    · cases h1
    · cases hv; rfl
  subst hm
  have hp := ownsRow_pop (by simp) hown
  refine ⟨h.job.far (by simp; omega) _, h.best.far (by simp; omega) _, h.bvar.far (by simp) _, by simpa using h.sov.set_ 0 (.slice (some ⟨g, 0, none⟩) so.length cap'), h.nxt.far (by simp) _, own_far (p := ⟨M + 1 + 1, 0, none⟩) hp (by simp) _, h.ok.keep fun k => own_far (p := ⟨M + 1 + 1, 0, none⟩) k (by simp) _, h.apart, h.low.setCell (p := ⟨M + 1 + 1, 0, none⟩) (by simp; omega) _, hM, by have := h.size; simp; omega⟩

end Go.Proofs.Ytannipfohicpmaa

/- Plain laws of the best choice. No Go in sight. -/
namespace Mpl

/-- all choices that begin with so, with d grades more out of n -/
def ext (n : Nat) : Nat → List Int → List (List Int)
  | 0, so => [so]
  | d + 1, so => (List.range n).flatMap fun (g : Nat) => ext n d (so ++ [(g : Int)])

theorem fold_flat {α β γ : Type} (f : γ → β → γ) (g : α → List β) (l : List α) (b : γ) : (l.flatMap g).foldl f b = l.foldl (fun b a => (g a).foldl f b) b := by
  induction l generalizing b with
  | nil => rfl
  | cons a l ih => rw [List.flatMap_cons, List.foldl_append, List.foldl_cons, ih]

theorem explore_ext (j : Job) (d : Nat) (so : List Int) (b : Option (List Int)) : explore j d so b = (ext j.Grades.length d so).foldl (better j) b := by
  induction d generalizing so b with
  | zero => rfl
  | succ d ih =>
    rw [explore, ext, fold_flat]
    congr 1
    funext b g
    exact ih _ _

theorem mem_ext (n d : Nat) (so l : List Int) : l ∈ ext n d so ↔ ∃ t : List Int, l = so ++ t ∧ t.length = d ∧ ∀ x ∈ t, 0 ≤ x ∧ x < (n : Int) := by
  induction d generalizing so with
  | zero =>
    simp only [ext, List.mem_singleton]
    constructor
    · rintro rfl; exact ⟨[], by simp, rfl, by simp⟩
    · rintro ⟨t, rfl, h, _⟩
      have : t = [] := List.eq_nil_of_length_eq_zero h
      simp [this]
  | succ d ih =>
    simp only [ext, List.mem_flatMap, List.mem_range, ih]
    constructor
    · rintro ⟨g, hg, t, rfl, ht, hx⟩
      refine ⟨(g : Int) :: t, by simp, by simp [ht], fun x hx' => ?_⟩
      rcases List.mem_cons.1 hx' with rfl | h
      · omega
      · exact hx x h
    · rintro ⟨t, rfl, ht, hx⟩
      cases t with
      | nil => simp at ht
      | cons y t =>
        have hy := hx y (by simp)
        refine ⟨y.toNat, by omega, t, ?_, by simpa using ht, fun x h => hx x (by simp [h])⟩
        rw [show ((y.toNat : Nat) : Int) = y by omega]
        simp

def Bear (j : Job) (l : List Int) : Prop := (bearsFrom j l 0 l.length).1 < 0

theorem better_none {j : Job} {a : List Int} (hb : Bear j a) : better j none a = some a := by unfold better; exact if_pos hb
theorem better_some {j : Job} {a k : List Int} (hb : Bear j a) : better j (some k) a = if sumCost j a < sumCost j k then some a else some k := by unfold better; exact if_pos hb
theorem better_not {j : Job} {b : Option (List Int)} {a : List Int} (hb : ¬ Bear j a) : better j b a = b := by unfold better; exact if_neg hb

/-- r is the best of what was had before and of a list -/
def BestOf (j : Job) (L : List (List Int)) (b r : Option (List Int)) : Prop :=
  (r = none → b = none ∧ ∀ l ∈ L, ¬ Bear j l) ∧
  ∀ x, r = some x → (b = some x ∨ (x ∈ L ∧ Bear j x)) ∧ (∀ k, b = some k → sumCost j x ≤ sumCost j k) ∧ ∀ l ∈ L, Bear j l → sumCost j x ≤ sumCost j l

theorem fold_best (j : Job) (L : List (List Int)) (b : Option (List Int)) : BestOf j L b (L.foldl (better j) b) := by
  induction L generalizing b with
  | nil =>
    refine ⟨fun h => ⟨h, by simp⟩, fun x h => ⟨.inl h, fun k hk => ?_, by simp⟩⟩
    have h' : b = some x := h
    rw [h'] at hk
    cases hk
    omega
  | cons a L ih =>
    rw [List.foldl_cons]
    have h := ih (better j b a)
    generalize L.foldl (better j) (better j b a) = r at *
    by_cases hb : Bear j a
    · cases b with
      | none =>
        rw [better_none hb] at h
        refine ⟨fun hr => ?_, fun x hx => ?_⟩
        · have := (h.1 hr).1; cases this
        · obtain ⟨h1, h2, h3⟩ := h.2 x hx
          refine ⟨.inr ?_, (fun k hk => by cases hk), fun l hl hB => ?_⟩
          · rcases h1 with h1 | ⟨h1, h1'⟩
            · cases h1; exact ⟨by simp, hb⟩
            · exact ⟨by simp [h1], h1'⟩
          · rcases List.mem_cons.1 hl with rfl | hl
            · exact h2 _ rfl
            · exact h3 l hl hB
      | some k =>
        rw [better_some hb] at h
        by_cases hc : sumCost j a < sumCost j k
        · rw [if_pos hc] at h
          refine ⟨fun hr => ?_, fun x hx => ?_⟩
          · have := (h.1 hr).1; cases this
          · obtain ⟨h1, h2, h3⟩ := h.2 x hx
            have h4 := h2 a rfl
            refine ⟨.inr ?_, fun k' hk => ?_, fun l hl hB => ?_⟩
            · rcases h1 with h1 | ⟨h1, h1'⟩
              · cases h1; exact ⟨by simp, hb⟩
              · exact ⟨by simp [h1], h1'⟩
            · cases hk; omega
            · rcases List.mem_cons.1 hl with rfl | hl
              · exact h4
              · exact h3 l hl hB
        · rw [if_neg hc] at h
          refine ⟨fun hr => ?_, fun x hx => ?_⟩
          · have := (h.1 hr).1; cases this
          · obtain ⟨h1, h2, h3⟩ := h.2 x hx
            have h4 := h2 k rfl
            refine ⟨?_, fun k' hk => ?_, fun l hl hB => ?_⟩
            · rcases h1 with h1 | ⟨h1, h1'⟩
              · exact .inl h1
              · exact .inr ⟨by simp [h1], h1'⟩
            · cases hk; exact h4
            · rcases List.mem_cons.1 hl with rfl | hl
              · omega
              · exact h3 l hl hB
    · rw [better_not hb] at h
      refine ⟨fun hr => ⟨(h.1 hr).1, fun l hl => ?_⟩, fun x hx => ?_⟩
      · rcases List.mem_cons.1 hl with rfl | hl
        · exact hb
        · exact (h.1 hr).2 l hl
      · obtain ⟨h1, h2, h3⟩ := h.2 x hx
        refine ⟨?_, h2, fun l hl hB => ?_⟩
        · rcases h1 with h1 | ⟨h1, h1'⟩
          · exact .inl h1
          · exact .inr ⟨by simp [h1], h1'⟩
        · rcases List.mem_cons.1 hl with rfl | hl
          · exact absurd hB hb
          · exact h3 l hl hB

theorem isChoice_iff {j : Job} {l : List Int} (h : checkJob j = 0) : isChoice j l = true ↔ l ∈ ext j.Grades.length j.Ends.length [] := by
  rw [mem_ext]
  simp only [isChoice, Bool.and_eq_true, decide_eq_true_eq, Bool.not_eq_true', List.any_eq_false, List.nil_append]
  constructor
  · rintro ⟨⟨_, h2⟩, h3⟩
    exact ⟨l, rfl, h2, fun x hx => by have := h3 x hx; omega⟩
  · rintro ⟨t, rfl, h2, h3⟩
    exact ⟨⟨h, h2⟩, fun x hx => by have := h3 x hx; omega⟩

theorem choose_none {j : Job} (h : checkJob j = 0) (hc : chooseOf j = none) (l : List Int) (hl : isChoice j l = true) : ¬ Bear j l := by
  rw [chooseOf, if_pos h, explore_ext] at hc
  exact ((fold_best j (ext j.Grades.length j.Ends.length []) none).1 hc).2 l ((isChoice_iff h).1 hl)
theorem choose_some {j : Job} {r : List Int} (h : checkJob j = 0) (hc : chooseOf j = some r) : isChoice j r = true ∧ Bear j r ∧ ∀ l, isChoice j l = true → Bear j l → sumCost j r ≤ sumCost j l := by
  rw [chooseOf, if_pos h, explore_ext] at hc
  obtain ⟨h1, _, h3⟩ := (fold_best j (ext j.Grades.length j.Ends.length []) none).2 r hc
  rcases h1 with h1 | ⟨h1, h2⟩
  · cases h1
  · exact ⟨(isChoice_iff h).2 h1, h2, fun l hl hB => h3 l ((isChoice_iff h).1 hl) hB⟩
theorem choose_bad {j : Job} (h : checkJob j ≠ 0) : chooseOf j = none := by rw [chooseOf, if_neg h]

theorem why_range (j : Job) (lo hi : Int) (g : Grade) (p : Int) : 0 ≤ why j lo hi g p ∧ why j lo hi g p ≤ 3 := by
  unfold why
  split
  · omega
  · split
    · omega
    · split <;> omega

theorem bears_shape (j : Job) (l : List Int) (i n : Nat) : (bearsFrom j l i n = (-1, 0) ∧ ∀ t, i ≤ t → t < i + n → whyAt j l t = 0) ∨ ∃ k : Nat, i ≤ k ∧ k < i + n ∧ whyAt j l k ≠ 0 ∧ bearsFrom j l i n = ((k : Int), whyAt j l k) := by
  induction n generalizing i with
  | zero => exact .inl ⟨rfl, fun t h1 h2 => by omega⟩
  | succ n ih =>
    rw [bearsFrom]
    by_cases h : whyAt j l i ≠ 0
    · rw [if_pos h]
      exact .inr ⟨i, Nat.le_refl _, by omega, h, rfl⟩
    · rw [if_neg h]
      rcases ih (i + 1) with ⟨h1, h2⟩ | ⟨k, h1, h2, h3, h4⟩
      · refine .inl ⟨h1, fun t ht1 ht2 => ?_⟩
        by_cases e : t = i
        · subst e; simpa using h
        · exact h2 t (by omega) (by omega)
      · exact .inr ⟨k, by omega, by omega, h3, h4⟩

theorem bear_iff (j : Job) (l : List Int) : Bear j l ↔ bearsFrom j l 0 l.length = (-1, 0) := by
  unfold Bear
  rcases bears_shape j l 0 l.length with ⟨h, _⟩ | ⟨k, _, _, _, h⟩ <;> rw [h] <;> simp

end Mpl

/- Plain laws of lines between two places: a line is straight where it has no knot, so what is borne at the ends and at the knots of a section is borne in all of it. No Go in sight. -/
namespace Mpl

/-- from p to q a line is straight: its value is (A + B x) / D -/
def Straight (ks : List Knot) (p q D A B : Int) : Prop :=
  0 < D ∧ ∀ x, p ≤ x → x ≤ q → (At ks x).Lo * D ≤ A + B * x ∧ A + B * x < ((At ks x).Lo + 1) * D ∧ A + B * x ≤ (At ks x).Hi * D ∧ ((At ks x).Hi - 1) * D < A + B * x

theorem floor_bounds (N d : Int) (hd : 0 < d) : N / d * d ≤ N ∧ N < (N / d + 1) * d := by
  have e1 := Int.mul_ediv_add_emod N d
  have e2 := Int.emod_nonneg N (show d ≠ 0 by omega)
  have e3 := Int.emod_lt_of_pos N hd
  rw [Int.add_mul, Int.one_mul, Int.mul_comm (N / d) d]
  omega

theorem between_straight (a b : Knot) (x : Int) (h : a.At < b.At) :
    (between a b x).Lo * (b.At - a.At) ≤ a.V * (b.At - a.At) + (b.V - a.V) * (x - a.At) ∧ a.V * (b.At - a.At) + (b.V - a.V) * (x - a.At) < ((between a b x).Lo + 1) * (b.At - a.At) ∧
    a.V * (b.At - a.At) + (b.V - a.V) * (x - a.At) ≤ (between a b x).Hi * (b.At - a.At) ∧ ((between a b x).Hi - 1) * (b.At - a.At) < a.V * (b.At - a.At) + (b.V - a.V) * (x - a.At) := by
  have hd : 0 < b.At - a.At := by omega
  obtain ⟨f1, f2⟩ := floor_bounds ((b.V - a.V) * (x - a.At)) (b.At - a.At) hd
  obtain ⟨g1, g2⟩ := floor_bounds (-((b.V - a.V) * (x - a.At))) (b.At - a.At) hd
  simp only [between]
  generalize (b.V - a.V) * (x - a.At) = N at *
  generalize b.At - a.At = d at *
  generalize N / d = q at *
  generalize -N / d = r at *
  simp only [Int.add_mul, Int.sub_mul, Int.one_mul] at *
  omega

theorem value_knot {ks : List Knot} {a v : Int} (h : GoodLine ks a v) {i : Nat} (hi : i < ks.length) : value ks (kn ks i).At = ⟨(kn ks i).V, (kn ks i).V⟩ := by
  have hb : before (kn ks i).At ks = i := by
    have h1 := before_iff h (kn ks i).At
    have h2 := before_le (kn ks i).At ks
    rcases Nat.lt_trichotomy (before (kn ks i).At ks) i with h3 | h3 | h3
    · have := h.lt h3 hi
      have := (h1 _ (by omega)).1 this
      omega
    · exact h3
    · have := (h1 i hi).2 h3
      omega
  unfold value
  rw [hb]
  by_cases h0 : i = 0
  · rw [if_pos h0, h0]
  · rw [if_neg h0, if_neg (by omega)]
    have hu := h.up (i - 1) (by omega)
    rw [show i - 1 + 1 = i by omega] at hu
    unfold between
    have hd : (kn ks i).At - (kn ks (i - 1)).At ≠ 0 := by omega
    rw [Int.mul_ediv_cancel _ hd, ← Int.neg_mul, Int.mul_ediv_cancel _ hd]
    congr 1 <;> omega

theorem straight_of {ks : List Knot} (h0 : okLine ks = 0) (p q : Int) (hno : ∀ i, i < ks.length → (kn ks i).At ≤ p ∨ q ≤ (kn ks i).At) : ∃ D A B, Straight ks p q D A B := by
  have hg := (checkLine_good h0).1
  have hat : ∀ x, At ks x = value ks x := fun x => by rw [At, if_pos (okLine_right h0)]
  have hpos := hg.pos
  have hc := before_iff hg (p + 1)
  have hcl := before_le (p + 1) ks
  generalize before (p + 1) ks = c at *
  by_cases c0 : c = 0
  · refine ⟨1, (kn ks 0).V, 0, by omega, fun x hx hx2 => ?_⟩
    have hv : value ks x = ⟨(kn ks 0).V, (kn ks 0).V⟩ := by
      have hb : before x ks = 0 := by
        rcases Nat.eq_zero_or_pos (before x ks) with h | h
        · exact h
        · have h1 := before_lt x ks 0 h
          have h2 := (hc 0 hpos)
          rcases hno 0 hpos with h3 | h3
          · have := h2.1 (by omega); omega
          · omega
      unfold value
      rw [if_pos hb]
    rw [hat, hv]
    simp
    omega
  by_cases cl : c = ks.length
  · refine ⟨1, (kn ks (ks.length - 1)).V, 0, by omega, fun x hx hx2 => ?_⟩
    have hl := (hc (ks.length - 1) (by omega)).2 (by omega)
    have hv : value ks x = ⟨(kn ks (ks.length - 1)).V, (kn ks (ks.length - 1)).V⟩ := by
      by_cases he : (kn ks (ks.length - 1)).At = x
      · rw [← he, value_knot hg (by omega)]
      · have hb : before x ks = ks.length := by
          have h1 := (before_iff hg x (ks.length - 1) (by omega)).1 (by omega)
          have := before_le x ks
          omega
        unfold value
        rw [hb, if_neg (by omega), if_pos rfl]
    rw [hat, hv]
    simp
    omega
  · have ha := (hc (c - 1) (by omega)).2 (by omega)
    have hb : p < (kn ks c).At := by
      rcases Int.lt_or_le p (kn ks c).At with h | h
      · exact h
      · have := (hc c (by omega)).1 (by omega); omega
    have hb2 : q ≤ (kn ks c).At := by
      rcases hno c (by omega) with h | h
      · omega
      · exact h
    have hab := hg.lt (show c - 1 < c by omega) (by omega)
    refine ⟨(kn ks c).At - (kn ks (c - 1)).At, (kn ks (c - 1)).V * ((kn ks c).At - (kn ks (c - 1)).At) - ((kn ks c).V - (kn ks (c - 1)).V) * (kn ks (c - 1)).At, (kn ks c).V - (kn ks (c - 1)).V, by omega, fun x hx hx2 => ?_⟩
    have hv : value ks x = between (kn ks (c - 1)) (kn ks c) x := by
      by_cases he : (kn ks (c - 1)).At = x
      · rw [← he, value_knot hg (by omega)]
        unfold between
        simp
      · have hbx : before x ks = c := by
          have h1 := (before_iff hg x (c - 1) (by omega)).1 (by omega)
          rcases Nat.lt_or_ge c (before x ks) with h | h
          · have := before_lt x ks c h; omega
          · omega
        unfold value
        rw [hbx, if_neg c0, if_neg cl]
    rw [hat, hv]
    have hs := between_straight (kn ks (c - 1)) (kn ks c) x hab
    have he : (kn ks (c - 1)).V * ((kn ks c).At - (kn ks (c - 1)).At) - ((kn ks c).V - (kn ks (c - 1)).V) * (kn ks (c - 1)).At + ((kn ks c).V - (kn ks (c - 1)).V) * x = (kn ks (c - 1)).V * ((kn ks c).At - (kn ks (c - 1)).At) + ((kn ks c).V - (kn ks (c - 1)).V) * (x - (kn ks (c - 1)).At) := by
      rw [Int.mul_sub ((kn ks c).V - (kn ks (c - 1)).V) x]
      omega
    rw [he]
    exact hs

theorem nearest_low (L : List Int) (z a : Int) (ha : a ∈ L) (hz : a ≤ z) : ∃ p, p ∈ L ∧ p ≤ z ∧ ∀ x, x ∈ L → x ≤ z → x ≤ p := by
  induction L generalizing a with
  | nil => simp at ha
  | cons y L ih =>
    by_cases hex : ∃ b, b ∈ L ∧ b ≤ z
    · obtain ⟨b, hb, hbz⟩ := hex
      obtain ⟨p, hp, hpz, hm⟩ := ih b hb hbz
      by_cases hy : y ≤ z ∧ p < y
      · refine ⟨y, by simp, hy.1, fun x hx hxz => ?_⟩
        rcases List.mem_cons.1 hx with rfl | hx
        · omega
        · have := hm x hx hxz; omega
      · refine ⟨p, by simp [hp], hpz, fun x hx hxz => ?_⟩
        rcases List.mem_cons.1 hx with rfl | hx
        · omega
        · exact hm x hx hxz
    · rcases List.mem_cons.1 ha with rfl | ha
      · refine ⟨a, by simp, hz, fun x hx hxz => ?_⟩
        rcases List.mem_cons.1 hx with rfl | hx
        · omega
        · exact (hex ⟨x, hx, hxz⟩).elim
      · exact (hex ⟨a, ha, hz⟩).elim
theorem nearest_high (L : List Int) (z a : Int) (ha : a ∈ L) (hz : z ≤ a) : ∃ p, p ∈ L ∧ z ≤ p ∧ ∀ x, x ∈ L → z ≤ x → p ≤ x := by
  obtain ⟨p, hp, hpz, hm⟩ := nearest_low (L.map fun x => -x) (-z) (-a) (List.mem_map.2 ⟨a, ha, rfl⟩) (by omega)
  obtain ⟨y, hy, rfl⟩ := List.mem_map.1 hp
  refine ⟨y, hy, by omega, fun x hx hxz => ?_⟩
  have := hm (-x) (List.mem_map.2 ⟨x, hx, rfl⟩) (by omega)
  omega

theorem fold_max (f : Int → Int) (l : List Int) (b : Int) : b ≤ l.foldl (fun o z => max o (f z)) b ∧ ∀ z, z ∈ l → f z ≤ l.foldl (fun o z => max o (f z)) b := by
  induction l generalizing b with
  | nil => simp
  | cons a l ih =>
    rw [List.foldl_cons]
    have h := ih (max b (f a))
    refine ⟨by have := h.1; omega, fun z hz => ?_⟩
    rcases List.mem_cons.1 hz with rfl | hz
    · have := h.1; omega
    · exact h.2 z hz
theorem fold_max_le (f : Int → Int) (l : List Int) (b M : Int) (hb : b ≤ M) (h : ∀ z, z ∈ l → f z ≤ M) : l.foldl (fun o z => max o (f z)) b ≤ M := by
  induction l generalizing b with
  | nil => exact hb
  | cons a l ih =>
    rw [List.foldl_cons]
    exact ih _ (by have := h a (by simp); omega) fun z hz => h z (by simp [hz])

theorem excess_small {a b : List Knot} (ha : okLine a = 0) (hb : okLine b = 0) (z : Int) : -68719476736 ≤ excessAt a b z ∧ excessAt a b z ≤ 68719476736 := by
  have h1 := at_bounds ha z
  have h2 := at_bounds hb z
  unfold excessAt
  omega

theorem extreme_ge {a b : List Knot} {lo hi : Int} (ha : okLine a = 0) (hb : okLine b = 0) (h0 : 0 ≤ lo) (h1 : lo ≤ hi) (h2 : hi ≤ 1048576) :
    (∀ z, z ∈ lo :: places a b lo hi → excessAt a b z ≤ extreme a b lo hi) ∧ -68719476736 ≤ extreme a b lo hi ∧ extreme a b lo hi ≤ 68719476736 := by
  unfold extreme
  rw [if_neg (by omega)]
  obtain ⟨f1, f2⟩ := fold_max (excessAt a b) (places a b lo hi) (excessAt a b lo)
  have f3 := fold_max_le (excessAt a b) (places a b lo hi) (excessAt a b lo) 68719476736 (excess_small ha hb lo).2 fun z _ => (excess_small ha hb z).2
  refine ⟨fun z hz => ?_, by have := (excess_small ha hb lo).1; omega, f3⟩
  rcases List.mem_cons.1 hz with rfl | hz
  · exact f1
  · exact f2 z hz

theorem mul_le (a b c : Int) (h : a ≤ b) (hc : 0 ≤ c) : c * a ≤ c * b := Int.mul_le_mul_of_nonneg_left h hc

/-- f is straight and small at both ends: it is small between them -/
theorem line_le (A B p q z M : Int) (h1 : A + B * p ≤ M) (h2 : A + B * q ≤ M) (hp : p ≤ z) (hq : z ≤ q) : A + B * z ≤ M := by
  rcases Int.le_total 0 B with hB | hB
  · have := mul_le z q B hq hB; omega
  · have := mul_le p z (-B) hp (by omega)
    rw [Int.neg_mul, Int.neg_mul] at this
    omega

theorem straight_pair {a b : List Knot} {p q z M : Int} {D1 A1 B1 D2 A2 B2 : Int} (s1 : Straight a p q D1 A1 B1) (s2 : Straight b p q D2 A2 B2) (hp : p ≤ z) (hq : z ≤ q) (ep : excessAt a b p ≤ M) (eq : excessAt a b q ≤ M) :
    (At a z).Hi - (At b z).Lo ≤ M + 1 ∧ (At a z).Lo - (At b z).Hi ≤ M := by
  obtain ⟨d1, s1⟩ := s1
  obtain ⟨d2, s2⟩ := s2
  have hD : 0 < D1 * D2 := Int.mul_pos d1 d2
  have key : ∀ x, p ≤ x → x ≤ q → excessAt a b x ≤ M → (D2 * A1 - D1 * A2) + (D2 * B1 - D1 * B2) * x ≤ D1 * D2 * M := fun x h1 h2 hm => by
    have a1 := mul_le _ _ D2 (s1 x h1 h2).2.2.1 (by omega)
    have a2 := mul_le _ _ D1 (s2 x h1 h2).1 (by omega)
    have a3 := mul_le _ _ (D1 * D2) hm (by omega)
    unfold excessAt at a3
    have b1 : D2 * ((At a x).Hi * D1) = D1 * D2 * (At a x).Hi := by rw [Int.mul_comm (At a x).Hi D1, ← Int.mul_assoc, Int.mul_comm D2 D1]
    have b2 : D1 * ((At b x).Lo * D2) = D1 * D2 * (At b x).Lo := by rw [Int.mul_comm (At b x).Lo D2, ← Int.mul_assoc]
    rw [b1, Int.mul_add, ← Int.mul_assoc] at a1
    rw [b2, Int.mul_add, ← Int.mul_assoc] at a2
    rw [Int.mul_sub] at a3
    rw [Int.sub_mul]
    omega
  have k1 := key p (Int.le_refl _) (by omega) ep
  have k2 := key q (by omega) (Int.le_refl _) eq
  have kz := line_le _ _ p q z _ k1 k2 hp hq
  have c1 := s1 z hp hq
  have c2 := s2 z hp hq
  have l1 := mul_le _ _ D2 c1.1 (by omega)
  have l2 := mul_le _ _ D1 c2.2.2.1 (by omega)
  have m1 := Int.mul_lt_mul_of_pos_left c1.2.2.2 d2
  have m2 := Int.mul_lt_mul_of_pos_left c2.2.1 d1
  rw [Int.sub_mul] at kz
  generalize (At a z).Hi = ah at *
  generalize (At a z).Lo = al at *
  generalize (At b z).Hi = bh at *
  generalize (At b z).Lo = bl at *
  have e1 : D2 * (al * D1) = D1 * D2 * al := by rw [Int.mul_comm al D1, ← Int.mul_assoc, Int.mul_comm D2 D1]
  have e2 : D1 * (bh * D2) = D1 * D2 * bh := by rw [Int.mul_comm bh D2, ← Int.mul_assoc]
  have e3 : D2 * ((ah - 1) * D1) = D1 * D2 * (ah - 1) := by rw [Int.mul_comm (ah - 1) D1, ← Int.mul_assoc, Int.mul_comm D2 D1]
  have e4 : D1 * ((bl + 1) * D2) = D1 * D2 * (bl + 1) := by rw [Int.mul_comm (bl + 1) D2, ← Int.mul_assoc]
  rw [e1, Int.mul_add, ← Int.mul_assoc] at l1
  rw [e2, Int.mul_add, ← Int.mul_assoc] at l2
  rw [e3, Int.mul_add, ← Int.mul_assoc] at m1
  rw [e4, Int.mul_add, ← Int.mul_assoc] at m2
  constructor
  · have h : D1 * D2 * (ah - 1 - (bl + 1)) < D1 * D2 * M := by rw [Int.mul_sub]; omega
    have := Int.lt_of_mul_lt_mul_left h (by omega)
    omega
  · have h : D1 * D2 * (al - bh) ≤ D1 * D2 * M := by rw [Int.mul_sub]; omega
    exact Int.le_of_mul_le_mul_left h hD

/-- what is borne at the places of a section is borne at each of its depths -/
theorem extreme_all {a b : List Knot} {lo hi z M : Int} (ha : okLine a = 0) (hb : okLine b = 0) (h0 : 0 ≤ lo) (h2 : hi ≤ 1048576) (hz0 : lo ≤ z) (hz1 : z ≤ hi) (hM : extreme a b lo hi ≤ M) :
    (At a z).Hi - (At b z).Lo ≤ M + 1 ∧ (At a z).Lo - (At b z).Hi ≤ M := by
  obtain ⟨hge, _, _⟩ := extreme_ge ha hb h0 (show lo ≤ hi by omega) h2
  obtain ⟨p, hp, hpz, hpm⟩ := nearest_low (lo :: places a b lo hi) z lo (by simp) hz0
  obtain ⟨q, hq, hqz, hqm⟩ := nearest_high (lo :: places a b lo hi) z hi (by simp [places]) hz1
  have hplo : lo ≤ p := hpm lo (by simp) hz0
  have hqhi : q ≤ hi := hqm hi (by simp [places]) hz1
  have hin : ∀ x, x ∈ (a ++ b).map Knot.At → x ≤ p ∨ q ≤ x := fun x hx => by
    rcases Int.lt_or_le p x with h1 | h1
    · rcases Int.lt_or_le x q with h3 | h3
      · exfalso
        have hm : x ∈ lo :: places a b lo hi := by
          refine List.mem_cons_of_mem _ (List.mem_cons_of_mem _ (List.mem_filter.2 ⟨hx, ?_⟩))
          simp [within]
          omega
        rcases Int.le_total x z with h4 | h4
        · have := hpm x hm h4; omega
        · have := hqm x hm h4; omega
      · exact .inr h3
    · exact .inl h1
  have hka : ∀ i, i < a.length → (kn a i).At ≤ p ∨ q ≤ (kn a i).At := fun i hi => hin _ (List.mem_map.2 ⟨kn a i, List.mem_append.2 (.inl (by simp [kn, hi])), rfl⟩)
  have hkb : ∀ i, i < b.length → (kn b i).At ≤ p ∨ q ≤ (kn b i).At := fun i hi => hin _ (List.mem_map.2 ⟨kn b i, List.mem_append.2 (.inr (by simp [kn, hi])), rfl⟩)
  obtain ⟨D1, A1, B1, s1⟩ := straight_of ha p q hka
  obtain ⟨D2, A2, B2, s2⟩ := straight_of hb p q hkb
  exact straight_pair s1 s2 hpz hqz (Int.le_trans (hge p hp) hM) (Int.le_trans (hge q hq) hM)

theorem needed_ge {q f : Int} (h1 : -68719476736 ≤ q) (h2 : q ≤ 68719476736) (h3 : 1000 ≤ f) (h4 : f ≤ 3000) : q ≤ needed q f := by
  unfold needed
  rw [if_pos (by simp [within]; omega)]
  have := mul_le 1000 f (max q 0) h3 (by omega)
  omega

theorem share_le {c p pull : Int} (hc : 0 ≤ c) (hp : 1 ≤ p) (h0 : 0 ≤ pull) (_h1 : pull ≤ p) : c * (1000 * (p - pull) / p) / 1000 ≤ c := by
  have h : 1000 * (p - pull) / p ≤ 1000 := by
    have : 1000 * (p - pull) / p < 1001 := Int.ediv_lt_of_lt_mul (by omega) (by omega)
    omega
  have := mul_le _ _ c h hc
  omega

/-- a section that bears -/
theorem design_at {j : Job} {l : List Int} {i : Nat} (hC : Chosen j l) (hi : i < l.length) (hw : whyAt j l i = 0) (hp0 : 0 ≤ pullOf j l i) {z : Int} (h0 : top j i ≤ z) (h1 : z ≤ bottom j i) :
    pullOf j l i ≤ (grade j (pick l i)).Pull ∧ ∀ k, k < j.Loads.length →
      ((At (ld j.Loads k).In z).Hi - (At (ld j.Loads k).Out z).Lo ≤ (grade j (pick l i)).Burst + 1 ∧ (At (ld j.Loads k).In z).Lo - (At (ld j.Loads k).Out z).Hi ≤ (grade j (pick l i)).Burst) ∧ ((At (ld j.Loads k).Out z).Hi - (At (ld j.Loads k).In z).Lo ≤ (grade j (pick l i)).Collapse + 1 ∧ (At (ld j.Loads k).Out z).Lo - (At (ld j.Loads k).In z).Hi ≤ (grade j (pick l i)).Collapse) := by
  unfold whyAt why at hw
  split at hw
  · omega
  rename_i hB
  split at hw
  · omega
  rename_i hP
  split at hw
  · omega
  rename_i hO
  have hfair := fair_bounds (hC.fair _ (hC.grades i hi).2)
  have hgd : gd j.Grades (pick l i).toNat = grade j (pick l i) := rfl
  rw [hgd] at hfair
  refine ⟨by omega, fun k hk => ?_⟩
  have hld : ld j.Loads k = j.Loads[k] := by simp [ld, hk]
  have hmem : ld j.Loads k ∈ j.Loads := by rw [hld]; exact List.getElem_mem hk
  obtain ⟨o1, o2⟩ := hC.loads k hk
  have hie : i < j.Ends.length := by rw [← hC.same]; exact hi
  have ht0 : 0 ≤ top j i := hC.top0 i hie
  have htb : top j i < bottom j i := hC.up i hie
  have hb2 : bottom j i ≤ 1048576 := (hC.ends i hie).2
  have hsh := share_le (c := (grade j (pick l i)).Collapse) (p := (grade j (pick l i)).Pull) (pull := pullOf j l i) (by omega) (by omega) hp0 (by omega)
  generalize (grade j (pick l i)).Collapse * (1000 * ((grade j (pick l i)).Pull - pullOf j l i) / (grade j (pick l i)).Pull) / 1000 = sh at *
  simp only [whyBurst, whyCollapse, Bool.not_eq_true, List.any_eq_false, decide_eq_true_eq] at hB hO
  have b1 := hB _ hmem
  have b2 := hO _ hmem
  obtain ⟨_, e1, e2⟩ := extreme_ge o1 o2 ht0 (show top j i ≤ bottom j i by omega) hb2
  obtain ⟨_, e3, e4⟩ := extreme_ge o2 o1 ht0 (show top j i ≤ bottom j i by omega) hb2
  have n1 := needed_ge e1 e2 hC.factor.1 hC.factor.2
  have n2 := needed_ge e3 e4 hC.factor.1 hC.factor.2
  have u1 : inside (ld j.Loads k) (top j i) (bottom j i) = extreme (ld j.Loads k).In (ld j.Loads k).Out (top j i) (bottom j i) := rfl
  have u2 : outside (ld j.Loads k) (top j i) (bottom j i) = extreme (ld j.Loads k).Out (ld j.Loads k).In (top j i) (bottom j i) := rfl
  rw [u1] at b1
  rw [u2] at b2
  exact ⟨extreme_all o1 o2 ht0 hb2 h0 h1 (by omega), extreme_all o2 o1 ht0 hb2 h0 h1 (by omega)⟩

end Mpl

/- The plain law of CasingMore. No Go in sight. -/
namespace Mpl

theorem needed_mono {q f f' : Int} (h0 : 1000 ≤ f) (h : f ≤ f') (h1 : f' ≤ 3000) : needed q f ≤ needed q f' := by
  unfold needed
  by_cases hq : within q (-68719476736) 68719476736 = true
  · have hq' : -68719476736 ≤ q ∧ q ≤ 68719476736 := by simpa [within] using hq
    rw [if_pos (by simp [within]; omega), if_pos (by simp [within]; omega)]
    have := Int.mul_le_mul_of_nonneg_left h (show 0 ≤ max q 0 by omega)
    omega
  · simp only [Bool.not_eq_true] at hq
    simp [hq]

theorem share_mono {c p a b : Int} (hc : 0 ≤ c) (hp : 1 ≤ p) (h : a ≤ b) : c * (1000 * (p - b) / p) / 1000 ≤ c * (1000 * (p - a) / p) / 1000 := by
  have h1 : 1000 * (p - b) / p ≤ 1000 * (p - a) / p := Int.ediv_le_ediv (by omega) (by omega)
  have h2 := Int.mul_le_mul_of_nonneg_left h1 hc
  exact Int.ediv_le_ediv (by omega) h2

theorem why_zero (j : Job) (lo hi : Int) (g : Grade) (p : Int) : why j lo hi g p = 0 ↔ whyBurst j lo hi g = false ∧ p ≤ g.Pull ∧ whyCollapse j lo hi (g.Collapse * (1000 * (g.Pull - p) / g.Pull) / 1000) = false := by
  unfold why
  cases h1 : whyBurst j lo hi g
  · by_cases h2 : g.Pull < p
    · simp [h2]; omega
    · cases h3 : whyCollapse j lo hi (g.Collapse * (1000 * (g.Pull - p) / g.Pull) / 1000)
      · simp [h2]; omega
      · simp [h2]
  · simp

theorem bear_all (j : Job) (l : List Int) : Bear j l ↔ ∀ i, i < l.length → whyAt j l i = 0 := by
  rw [bear_iff]
  rcases bears_shape j l 0 l.length with ⟨h, h2⟩ | ⟨k, h1, h2, h3, h4⟩
  · exact ⟨fun _ i hi => h2 i (by omega) (by omega), fun _ => h⟩
  · refine ⟨fun h => ?_, fun h => absurd (h k (by omega)) h3⟩
    rw [h4] at h
    injection h with h _
    omega

/-- a job with one load more, or harder numbers -/
structure Harder (j k : Job) : Prop where
  ends : k.Ends = j.Ends
  grades : k.Grades = j.Grades
  loads : ∀ l, l ∈ j.Loads → l ∈ k.Loads
  f0 : 1000 ≤ j.Factor
  f1 : j.Factor ≤ k.Factor
  f2 : k.Factor ≤ 3000
  over : j.Over ≤ k.Over

theorem sumFrom_congr (f g : Nat → Int) (h : ∀ k, f k = g k) (i n : Nat) : sumFrom f i n = sumFrom g i n := by
  rw [show f = g from funext h]

theorem Harder.pull {j k : Job} (h : Harder j k) (l : List Int) (i : Nat) : pullOf j l i ≤ pullOf k l i := by
  unfold pullOf
  have : sumFrom (weightOf k l) i (l.length - i) = sumFrom (weightOf j l) i (l.length - i) := sumFrom_congr _ _ (fun t => by unfold weightOf grade bottom top; rw [h.ends, h.grades]) _ _
  rw [this]
  have := h.over
  omega
theorem Harder.cost {j k : Job} (h : Harder j k) (l : List Int) : sumCost k l = sumCost j l := by
  unfold sumCost
  exact sumFrom_congr _ _ (fun t => by unfold costOf grade bottom top; rw [h.ends, h.grades]) _ _
theorem Harder.choice {j k : Job} (h : Harder j k) (hj : checkJob j = 0) (hk : checkJob k = 0) (l : List Int) : isChoice k l = isChoice j l := by
  unfold isChoice
  rw [h.ends, h.grades, hj, hk]

theorem Harder.bear {j k : Job} (h : Harder j k) (_hj : checkJob j = 0) {l : List Int} (hl : isChoice j l = true) (hb : Bear k l) : Bear j l := by
  rw [bear_all] at hb ⊢
  have hC := isChoice_chosen hl
  intro i hi
  have hw := hb i hi
  unfold whyAt at hw ⊢
  have e1 : top k i = top j i := by unfold top; rw [h.ends]
  have e2 : bottom k i = bottom j i := by unfold bottom; rw [h.ends]
  have e3 : grade k (pick l i) = grade j (pick l i) := by unfold grade; rw [h.grades]
  rw [e1, e2, e3, why_zero] at hw
  rw [why_zero]
  obtain ⟨w1, w2, w3⟩ := hw
  have hg : fairGrade (grade j (pick l i)) = true := hC.fair _ (hC.grades i hi).2
  obtain ⟨_, ⟨c0, c1⟩, ⟨p0, p1⟩, _, _⟩ := fair_bounds hg
  have hp := h.pull l i
  refine ⟨?_, by omega, ?_⟩
  · unfold whyBurst at w1 ⊢
    rw [List.any_eq_false] at w1 ⊢
    intro x hx
    have := w1 x (h.loads x hx)
    have m := needed_mono (q := inside x (top j i) (bottom j i)) h.f0 h.f1 h.f2
    simp only [decide_eq_true_eq] at this ⊢
    omega
  · unfold whyCollapse at w3 ⊢
    rw [List.any_eq_false] at w3 ⊢
    intro x hx
    have := w3 x (h.loads x hx)
    have m := needed_mono (q := outside x (top j i) (bottom j i)) h.f0 h.f1 h.f2
    have s := share_mono (c := (grade j (pick l i)).Collapse) c0 p0 hp
    simp only [decide_eq_true_eq] at this ⊢
    omega

theorem cost_choice {j : Job} {l : List Int} (h : isChoice j l = true) : cost j l = sumCost j l := by
  unfold cost sumCost
  rw [if_pos h]

/-- what the first half says -/
theorem more_hard {j k : Job} (h : Harder j k) (hj : checkJob j = 0) {b : List Int} (hc : chooseOf k = some b) : ∃ a, chooseOf j = some a ∧ cost j a ≤ cost k b := by
  have hk : checkJob k = 0 := by
    by_cases hk : checkJob k = 0
    · exact hk
    · rw [choose_bad hk] at hc; cases hc
  obtain ⟨c1, c2, _⟩ := choose_some hk hc
  have c3 := c1
  rw [h.choice hj hk] at c3
  have hb := h.bear hj c3 c2
  cases ha : chooseOf j with
  | none => exact absurd hb (choose_none hj ha b c3)
  | some a =>
    obtain ⟨a1, a2, a3⟩ := choose_some hj ha
    refine ⟨a, rfl, ?_⟩
    rw [cost_choice a1, cost_choice c1, h.cost]
    exact a3 b c3 hb

/-- a job with one grade more -/
def easier (j : Job) (g : Grade) : Job := ⟨j.Ends, j.Loads, j.Grades ++ [g], j.Factor, j.Over⟩
theorem easier_ok {j : Job} {g : Grade} (hj : checkJob j = 0) (hn : j.Grades.length ≤ 5) (hg : fairGrade g = true) : checkJob (easier j g) = 0 := by
  have G := checkJob_good hj
  exact good_checkJob ⟨G.ends, G.nload, G.loads, by simp only [easier, List.length_append, List.length_singleton]; omega, by simp [easier], gd_snoc _ _ G.fair hg, G.factor, G.over⟩
theorem easier_grade {j : Job} (g : Grade) {x : Int} (h0 : 0 ≤ x) (h1 : x < (j.Grades.length : Int)) : grade (easier j g) x = grade j x := by
  unfold grade easier gd
  simp only
  rw [List.getElem?_append_left (by omega)]
theorem sumFrom_congr_lt (f g : Nat → Int) (n : Nat) : ∀ i, (∀ k, i ≤ k → k < i + n → f k = g k) → sumFrom f i n = sumFrom g i n := by
  induction n with
  | zero => intro i _; rfl
  | succ n ih => intro i h; rw [sumFrom, sumFrom, h i (Nat.le_refl _) (by omega), ih (i + 1) fun k h1 h2 => h k (by omega) (by omega)]

theorem more_easy {j : Job} {g : Grade} (hj : checkJob j = 0) (hn : j.Grades.length ≤ 5) (hg : fairGrade g = true) {a : List Int} (ha : chooseOf j = some a) :
    ∃ c, chooseOf (easier j g) = some c ∧ cost (easier j g) c ≤ cost j a := by
  have he := easier_ok hj hn hg
  obtain ⟨a1, a2, _⟩ := choose_some hj ha
  have hC := isChoice_chosen a1
  have gr : ∀ i, i < a.length → grade (easier j g) (pick a i) = grade j (pick a i) := fun i hi => by
    have h1 := (hC.grades i hi).1
    have h2 := (hC.grades i hi).2
    exact easier_grade g h1 (by omega)
  have hch : isChoice (easier j g) a = true := by
    refine Go.Proofs.Ytannipfohicpmaa.isChoice_of he hC.same fun i hi => ?_
    have h1 := (hC.grades i hi).1
    have h2 := (hC.grades i hi).2
    simp only [easier, List.length_append, List.length_singleton]
    omega
  have hp : ∀ i, i < a.length → pullOf (easier j g) a i = pullOf j a i := fun i hi => by
    unfold pullOf
    show j.Over + _ = _
    congr 1
    refine sumFrom_congr_lt _ _ _ _ fun k h1 h2 => ?_
    unfold weightOf
    rw [gr k (by omega)]
    rfl
  have hb : Bear (easier j g) a := by
    rw [bear_all] at a2 ⊢
    intro i hi
    have := a2 i hi
    unfold whyAt at this ⊢
    rw [gr i hi, hp i hi]
    exact this
  have hs : sumCost (easier j g) a = sumCost j a := by
    unfold sumCost
    refine sumFrom_congr_lt _ _ _ _ fun k h1 h2 => ?_
    unfold costOf
    rw [gr k (by omega)]
    rfl
  cases hc : chooseOf (easier j g) with
  | none => exact absurd hb (choose_none he hc a hch)
  | some c =>
    obtain ⟨c1, c2, c3⟩ := choose_some he hc
    refine ⟨c, rfl, ?_⟩
    rw [cost_choice c1, cost_choice a1, ← hs]
    exact c3 a hch hb

end Mpl

/- Plain laws of counting all choices in order. No Go in sight. -/
namespace Mpl

/-- all lists behind a prefix (told backwards), m longer than it -/
def strict (n : Nat) : List Int → Nat → List (List Int)
  | [], _ => []
  | x :: rp, m => (List.range' (x.toNat + 1) (n - (x.toNat + 1))).flatMap (fun (g : Nat) => ext n m (rp.reverse ++ [(g : Int)])) ++ strict n rp (m + 1)

theorem strict_last (n : Nat) (x : Int) (rp : List Int) (m : Nat) (h : n ≤ x.toNat + 1) : strict n (x :: rp) m = strict n rp (m + 1) := by
  rw [strict, show n - (x.toNat + 1) = 0 by omega]
  rfl

theorem ext_strict (n : Nat) (hn : 1 ≤ n) (m : Nat) (q : List Int) : ext n m q ++ strict n q.reverse m = (q ++ List.replicate m 0) :: strict n (List.replicate m 0 ++ q.reverse) 0 := by
  induction m generalizing q with
  | zero => simp [ext]
  | succ m ih =>
    have h := ih (q ++ [0])
    rw [List.reverse_append] at h
    simp only [List.reverse_cons, List.reverse_nil, List.nil_append, List.singleton_append] at h
    have e1 : ext n (m + 1) q ++ strict n q.reverse (m + 1) = ext n m (q ++ [0]) ++ strict n (0 :: q.reverse) m := by
      rw [ext, strict, List.range_eq_range', ← List.append_assoc]
      congr 1
      obtain ⟨k, rfl⟩ : ∃ k, n = k + 1 := ⟨n - 1, by omega⟩
      rw [List.range'_succ, List.flatMap_cons, List.reverse_reverse]
      rfl
    rw [e1, h, List.append_assoc, List.replicate_succ]
    congr 2
    rw [← List.replicate_succ, List.replicate_succ', List.append_assoc]
    rfl

theorem strict_next (n : Nat) (x : Int) (rp : List Int) (m : Nat) (h0 : 0 ≤ x) (h : x.toNat + 1 < n) :
    strict n (x :: rp) m = (rp.reverse ++ [x + 1] ++ List.replicate m 0) :: strict n (List.replicate m 0 ++ ((x + 1) :: rp)) 0 := by
  have e := ext_strict n (by omega) m (rp.reverse ++ [x + 1])
  rw [List.reverse_append, List.reverse_reverse] at e
  simp only [List.reverse_cons, List.reverse_nil, List.nil_append, List.singleton_append] at e
  rw [← e, strict, strict, ← List.append_assoc]
  congr 1
  rw [show n - (x.toNat + 1) = n - ((x + 1).toNat + 1) + 1 by omega, List.range'_succ, List.flatMap_cons, show (((x.toNat + 1 : Nat)) : Int) = x + 1 by omega, show x.toNat + 1 + 1 = (x + 1).toNat + 1 by omega]

theorem all_choices (n : Nat) (hn : 1 ≤ n) (d : Nat) : ext n d [] = List.replicate d 0 :: strict n (List.replicate d 0) 0 := by
  have := ext_strict n hn d []
  simpa [strict] using this

/-- a list whose places from k on are 0 -/
def ZeroFrom (c : List Int) (k : Nat) : Prop := ∀ i, k ≤ i → i < c.length → pick c i = 0
theorem drop_zero {c : List Int} {k : Nat} (h : ZeroFrom c k) : c.drop k = List.replicate (c.length - k) 0 := by
  apply List.ext_getElem
  · simp
  · intro i h1 h2
    simp at h1
    have := h (k + i) (by omega) (by omega)
    rw [pick_get c _ (by omega)] at this
    simpa using this
theorem take_rev {c : List Int} {k : Nat} (h : k < c.length) : (c.take (k + 1)).reverse = pick c k :: (c.take k).reverse := by
  rw [List.take_succ_eq_append_getElem h, List.reverse_append, pick_get c k h]
  rfl

/-- what is still to come, at place k of the inner loop (k places are left) -/
def toCome (n : Nat) (c : List Int) (k : Nat) : List (List Int) := strict n (c.take k).reverse (c.length - k)
theorem toCome_zero (n : Nat) (c : List Int) : toCome n c 0 = [] := by simp [toCome, strict]
theorem toCome_full (n : Nat) (c : List Int) : toCome n c c.length = strict n c.reverse 0 := by simp [toCome]
theorem toCome_last {n : Nat} {c : List Int} {k : Nat} (hk : k < c.length) (hx : n ≤ (pick c k).toNat + 1) : toCome n c (k + 1) = toCome n c k := by
  unfold toCome
  rw [take_rev hk, strict_last _ _ _ _ hx, show c.length - (k + 1) + 1 = c.length - k by omega]
theorem toCome_set {n : Nat} {c : List Int} {k : Nat} (x : Int) : toCome n (c.set k x) k = toCome n c k := by
  unfold toCome
  rw [List.length_set, List.take_set_of_le (Nat.le_refl _)]
theorem toCome_next {n : Nat} {c : List Int} {k : Nat} (hk : k < c.length) (h0 : 0 ≤ pick c k) (hx : (pick c k).toNat + 1 < n) (hz : ZeroFrom c (k + 1)) :
    toCome n c (k + 1) = (c.set k (pick c k + 1)) :: toCome n (c.set k (pick c k + 1)) c.length := by
  have hl : (c.set k (pick c k + 1)).length = c.length := by simp
  have hd := drop_zero hz
  have e : c.set k (pick c k + 1) = c.take k ++ [pick c k + 1] ++ List.replicate (c.length - (k + 1)) 0 := by
    rw [← hd, List.set_eq_take_append_cons_drop, if_pos hk, List.append_assoc]
    rfl
  rw [show c.length = (c.set k (pick c k + 1)).length from hl.symm, toCome_full]
  unfold toCome
  rw [take_rev hk, strict_next _ _ _ _ h0 hx, List.reverse_reverse, ← e]
  congr 1
  rw [e, List.reverse_append, List.reverse_append, List.reverse_replicate]
  simp
theorem toCome_len {n : Nat} {c : List Int} {k : Nat} (hk : k < c.length) (h0 : 0 ≤ pick c k) (hx : (pick c k).toNat + 1 < n) (hz : ZeroFrom c (k + 1)) :
    (toCome n (c.set k (pick c k + 1)) c.length).length < (toCome n c (k + 1)).length := by
  rw [toCome_next hk h0 hx hz]
  simp

theorem choose_fold {j : Job} (h : checkJob j = 0) (hn : 1 ≤ j.Grades.length) : chooseOf j = (List.replicate j.Ends.length 0 :: toCome j.Grades.length (List.replicate j.Ends.length 0) j.Ends.length).foldl (better j) none := by
  have e : toCome j.Grades.length (List.replicate j.Ends.length 0) j.Ends.length = strict j.Grades.length (List.replicate j.Ends.length 0) 0 := by
    have := toCome_full j.Grades.length (List.replicate j.Ends.length 0)
    simpa using this
  rw [e, ← all_choices _ hn, ← explore_ext, chooseOf, if_pos h]

end Mpl

/- Walks of the package casing: the search for the best choice, second part. -/
namespace Go.Proofs.Ytannipfohicpmaa
open Go.RowKit Go.Shelf Mpl

theorem range_fold (f : Option (List Int) → Nat → Option (List Int)) (k : Nat) (b : Option (List Int)) : (List.range (k + 1)).foldl f b = f ((List.range k).foldl f b) k := by
  rw [List.range_succ, List.foldl_append]
  rfl

theorem better_no {j : Job} {b : Option (List Int)} {so : List Int} (h : ¬ (bearsFrom j so 0 so.length).1 < 0) : better j b so = b := by
  unfold better
  rw [if_neg h]

set_option maxHeartbeats 8000000 in
set_option maxRecDepth 100000 in
theorem choose_leaf (w : World) (M : Nat) (j : Job) (aE aL aG : Option Addr) (nE nL nG eE eL eG : Nat) (hnE : j.Ends.length = nE) (hJ : JobV w w.heap.size (.agg #[.slice aE nE eE, .slice aL nL eL, .slice aG nG eG, .int .i64 j.Factor, .int .i64 j.Over]) j) (hok : checkJob j = 0) (hgr : j.Grades.length = nG)
    (so : List Int) (b : Option (List Int)) (W : World) (hlen : so.length = nE) (hso : GradesSo so nG) (hC : Ch w M #[.slice aE nE eE, .slice aL nL eL, .slice aG nG eG, .int .i64 j.Factor, .int .i64 j.Over] j W so b) :
    Calls Try.prog 62 #[.pointer (some ⟨M + 1 + 1, 0, none⟩), .pointer (some ⟨w.heap.size, 0, none⟩), .pointer (some ⟨M + 1, 0, none⟩), .pointer (some ⟨M + 1 + 1 + 1, 0, none⟩)] W fun e W' => (∃ v, e = .returned v) ∧ Ch w M #[.slice aE nE eE, .slice aL nL eL, .slice aG nG eG, .int .i64 j.Factor, .int .i64 j.Over] j W' so (better j b so) := by
  have hch := isChoice_chosen (isChoice_of hok (hlen.trans hnE.symm) (by rw [hgr]; exact hso))
  obtain ⟨vs, a, n, cap, c, hS⟩ := hC
  have hfew := hch.few
  have hpos := hch.pos
  have hown := hS.own
  obtain ⟨As, cs, rfl, _, hI⟩ := Ints.own hown
  obtain ⟨b0, o0, rfl, hb0, _⟩ := hI (by omega)
  have HIN := Lib.hid (fun W' (hW : Below W.heap.size W W') => hI.up hW hW.size)
  have HBE := Lib.hid (fun W' (hW : Below W.heap.size W W') => casing_bears0 j so _ (some ⟨b0, o0, none⟩) cs W' ((hJ.below hS.low).below hW) (hI.up hW hW.size) hch)
  have HCO := Lib.hid (fun W' (hW : Below W.heap.size W W') => casing_cost j so _ (some ⟨b0, o0, none⟩) cs W' ((hJ.below hS.low).below hW) (hI.up hW hW.size) hch)
  have HOF := Lib.hid (fun W' (hW : Below W.heap.size W W') => best_offer (M) a n cap c (sumCost j so) so b0 o0 cs W' (hS.under hW).best (hI.up hW hW.size) (by omega))
  have hsc : Hid (sumFrom (costOf j so) 0 so.length = sumCost j so) := rfl
  rw [hsc.out] at HCO
  have HS := Lib.hid hS
  have hM := hS.lt
  have q0 := hS.sov.cell 0
  have q1 := hS.job.cell 0
  have q2 := hS.job.cell 1
  have q3 := hS.job.cell 2
  have q4 := hS.job.cell 3
  have q5 := hS.job.cell 4
  simp only [List.getElem?_toArray, List.getElem?_cons_zero, List.getElem?_cons_succ] at q0 q1 q2 q3 q4 q5
  have HOFF := Lib.hid (fun W' (hW : Below W.heap.size W W') hb W2 => ChSt.offered (W' := W2) (HS.out.under hW) hb)
  clear hS hI hch hown hJ
  have hd : Hid (better j b so = if (bearsFrom j so 0 so.length).1 < 0 then better j b so else b) := by
    unfold Hid
    by_cases h : (bearsFrom j so 0 so.length).1 < 0
    · rw [if_pos h]
    · rw [if_neg h, better_no h]
  generalize better j b so = nb at *
  generalize bearsFrom j so 0 so.length = br at *
  generalize sumCost j so = sc at *
  rw [hlen] at q0 HBE HCO HOF
  have hnn : ((nE : Int) == (nE : Int)) = true := by simp
  by_cases hneg : br.1 < 0
  · rw [if_pos hneg] at hd
    have hneg' : decide (br.1 < 0) = true := decide_eq_true hneg
    go_enter Try.func62, Try.ntmps62
    go_wp2_with fail
    refine (HBE.out W (Below.refl _ _)).mono ?_
    rintro e W1 ⟨rfl, hb1⟩
    have HB1 := Lib.hid hb1
    clear hb1 q0 q1 q2 q3 q4 q5
    have S1 := Lib.hid (HS.out.under HB1.out)
    have q0 := S1.out.sov.cell 0
    have q1 := S1.out.job.cell 0
    have q2 := S1.out.job.cell 1
    have q3 := S1.out.job.cell 2
    have q4 := S1.out.job.cell 3
    have q5 := S1.out.job.cell 4
    have q6 := S1.out.bvar.cell 0
    simp only [List.getElem?_toArray, List.getElem?_cons_zero, List.getElem?_cons_succ] at q0 q1 q2 q3 q4 q5 q6
    rw [hlen] at q0
    go_wp2_with fail
    go_region_held3 (fun w' => w'.cell? ⟨M + 1 + 1, 0, none⟩ = some (.slice (some ⟨b0, o0, none⟩) nE cs) ∧ w'.cell? ⟨M + 1, 0, none⟩ = some (.pointer (some ⟨M, 0, none⟩)) ∧ w'.cell? ⟨w.heap.size, 0, none⟩ = some (.slice aE nE eE) ∧ w'.cell? ⟨w.heap.size, 1, none⟩ = some (.slice aL nL eL) ∧ w'.cell? ⟨w.heap.size, 2, none⟩ = some (.slice aG nG eG) ∧ w'.cell? ⟨w.heap.size, 3, none⟩ = some (.int .i64 j.Factor) ∧ w'.cell? ⟨w.heap.size, 4, none⟩ = some (.int .i64 j.Over))
      (first | exact ⟨q0, q6, q1, q2, q3, q4, q5⟩ | exact ⟨x0, x6, x1, x2, x3, x4, x5⟩ | exact ⟨y0, y6, y1, y2, y3, y4, y5⟩)
      (first
        | (go_at_call 55; refine (HCO.out _ HB1.out.drew).mono ?_; rintro e W2 ⟨rfl, hb2⟩; have B2 := Lib.hid (HB1.out.drew.trans (hb2.mono HB1.out.drew.size)); have S2 := Lib.hid (HS.out.under B2.out); have x0 := S2.out.sov.cell 0; have x1 := S2.out.job.cell 0; have x2 := S2.out.job.cell 1; have x3 := S2.out.job.cell 2; have x4 := S2.out.job.cell 3; have x5 := S2.out.job.cell 4; have x6 := S2.out.bvar.cell 0; simp only [List.getElem?_toArray, List.getElem?_cons_zero, List.getElem?_cons_succ] at x0 x1 x2 x3 x4 x5 x6; rw [hlen] at x0)
        | (go_at_call 63; refine (HOF.out _ B2.out).mono ?_; rintro e W3 ⟨⟨v, rfl⟩, hO⟩; have C3 := Lib.hid (HOFF.out _ B2.out hneg W3 hO); have y0 := (S2.out.sov.grown hO.1 (by intro he; injection he with he; omega)).cell 0; have y1 := (S2.out.job.grown hO.1 (by intro he; injection he with he; omega)).cell 0; have y2 := (S2.out.job.grown hO.1 (by intro he; injection he with he; omega)).cell 1; have y3 := (S2.out.job.grown hO.1 (by intro he; injection he with he; omega)).cell 2; have y4 := (S2.out.job.grown hO.1 (by intro he; injection he with he; omega)).cell 3; have y5 := (S2.out.job.grown hO.1 (by intro he; injection he with he; omega)).cell 4; have y6 := (S2.out.bvar.grown hO.1 (by intro he; injection he with he; omega)).cell 0; simp only [List.getElem?_toArray, List.getElem?_cons_zero, List.getElem?_cons_succ] at y0 y1 y2 y3 y4 y5 y6; rw [hlen] at y0)
        | fail)
    go_wp2_with fail
    refine bodyPost_ret (results_none rfl _ _ _) rfl ?_
    exact ⟨⟨_, rfl⟩, C3.out⟩
  · rw [if_neg hneg] at hd
    have hneg' : decide (br.1 < 0) = false := decide_eq_false hneg
    go_enter Try.func62, Try.ntmps62
    go_wp2_with fail
    refine (HBE.out W (Below.refl _ _)).mono ?_
    rintro e W1 ⟨rfl, hb1⟩
    go_wp2_with fail
    refine bodyPost_ret (results_none rfl _ _ _) rfl ?_
    rw [hd.out]
    exact ⟨⟨_, rfl⟩, _, a, n, cap, c, HS.out.under hb1⟩

set_option maxHeartbeats 8000000 in
set_option maxRecDepth 100000 in
theorem choose_step (w : World) (M : Nat) (j : Job) (aE aL aG : Option Addr) (nE nL nG eE eL eG : Nat) (hgr4 : nG ≤ 6) (hE5 : nE ≤ 5) (d : Nat)
    (ih : ∀ (so : List Int) (b : Option (List Int)) (W : World), so.length + d = nE → GradesSo so nG → Ch w M #[.slice aE nE eE, .slice aL nL eL, .slice aG nG eG, .int .i64 j.Factor, .int .i64 j.Over] j W so b →
      Calls Try.prog 62 #[.pointer (some ⟨M + 1 + 1, 0, none⟩), .pointer (some ⟨w.heap.size, 0, none⟩), .pointer (some ⟨M + 1, 0, none⟩), .pointer (some ⟨M + 1 + 1 + 1, 0, none⟩)] W fun e W' => (∃ v, e = .returned v) ∧ Ch w M #[.slice aE nE eE, .slice aL nL eL, .slice aG nG eG, .int .i64 j.Factor, .int .i64 j.Over] j W' so (explore j d so b))
    (so : List Int) (b : Option (List Int)) (W : World) (hlen : so.length + (d + 1) = nE) (hso : GradesSo so nG) (hC : Ch w M #[.slice aE nE eE, .slice aL nL eL, .slice aG nG eG, .int .i64 j.Factor, .int .i64 j.Over] j W so b) :
    Calls Try.prog 62 #[.pointer (some ⟨M + 1 + 1, 0, none⟩), .pointer (some ⟨w.heap.size, 0, none⟩), .pointer (some ⟨M + 1, 0, none⟩), .pointer (some ⟨M + 1 + 1 + 1, 0, none⟩)] W fun e W' => (∃ v, e = .returned v) ∧ Ch w M #[.slice aE nE eE, .slice aL nL eL, .slice aG nG eG, .int .i64 j.Factor, .int .i64 j.Over] j W' so ((List.range nG).foldl (fun b (g : Nat) => explore j d (so ++ [(g : Int)]) b) b) := by
  have HIH := Lib.hid ih
  clear ih
  obtain ⟨vs, a, n, cap, c, hS⟩ := hC
  have hwf : ∃ As cs, vs = .slice As so.length cs := by
    obtain ⟨As, cs, h, _, _⟩ := own_form hS.own
    exact ⟨As, cs, h⟩
  obtain ⟨As, cs, rfl⟩ := hwf
  have HS0 := Lib.hid (show Ch w M #[.slice aE nE eE, .slice aL nL eL, .slice aG nG eG, .int .i64 j.Factor, .int .i64 j.Over] j W so b from ⟨_, a, n, cap, c, hS⟩)
  have hM := hS.lt
  have q0 := hS.sov.cell 0
  have q1 := hS.job.cell 0
  have q3 := hS.job.cell 2
  simp only [List.getElem?_toArray, List.getElem?_cons_zero, List.getElem?_cons_succ] at q0 q1 q3
  clear hS
  have HF := Lib.hid (range_fold (fun b (g : Nat) => explore j d (so ++ [(g : Int)]) b))
  have hne : ((so.length : Int) == (nE : Int)) = false := beq_eq_false_iff_ne.2 (by omega)
  have hne2 : (so.length == nE) = false := beq_eq_false_iff_ne.2 (by omega)
  have HSO := Lib.hid hso
  obtain ⟨i0, hi0, hz0, hz1, hz2⟩ := info_parts info_int
  generalize hk : so.length = ls at *
  have HK := Lib.hid hk
  clear hk hso
  go_enter Try.func62, Try.ntmps62
  go_wp2_with fail
  clear q0 q1 q3 hne hne2
  go_loopw [30] (fun s30 wr => ∃ g : Nat, g ≤ nG ∧ s30 = .int .i64 g ∧ Hid (Ch w M #[.slice aE nE eE, .slice aL nL eL, .slice aG nG eG, .int .i64 j.Factor, .int .i64 j.Over] j wr so ((List.range g).foldl (fun b (g : Nat) => explore j d (so ++ [(g : Int)]) b) b))) (fun s30 _ => nG - (intOf s30).toNat)
  case atStart => exact ⟨0, Nat.zero_le _, rfl, HS0⟩
  case round =>
    obtain ⟨g, hg, rfl, hCh⟩ := hrel
    by_cases hlt : g < nG
    · obtain ⟨vs, a, n, cap, c, hS⟩ := hCh.out
      have hwf : ∃ As cs, vs = .slice As so.length cs := by
        obtain ⟨As, cs, h, _, _⟩ := own_form hS.own
        exact ⟨As, cs, h⟩
      obtain ⟨As, cs, rfl⟩ := hwf
      have hf := Lib.hid (HF.out g b)
      generalize (List.range g).foldl (fun b (g : Nat) => explore j d (so ++ [(g : Int)]) b) b = bg at *
      have HS := Lib.hid hS
      have q0 := hS.sov.cell 0
      have f0 := hS.sov.frozen 0
      have lt0 := hS.sov.lt
      have hsz := hS.size
      simp only [List.getElem?_toArray, List.getElem?_cons_zero] at q0
      rw [HK.out] at q0
      have hso5 : ls ≤ 5 := by omega
      have OWN := Lib.hid hS.own
      rw [HK.out] at OWN
      clear hS hCh
      go_wp2_with (at_builtin; refine wpList_append_lies _ rfl _ _ 37 rfl (M + 1 + 1 + 1 + 1) 3 i0 (.int .i64 0) 1 8 Try.underlying37 hi0 hz0 hz1 hz2 rfl (by decide) (.slice As ls cs) ls (so.map (Value.int .i64)) rfl (OWN.out.alloc _) ⟨wr.heap.size, 0, none⟩ 1 1 [.int .i64 g] rfl rfl ?_ ?_ ?_ ?_ ?_ ?_ (wr.heap.size + 1) ?_ ?_)
      · exact cells_new wr [.int .i64 g] 3
      · simp [Value.oneCell']
      · omega
      · unfold maxLen; omega
      · omega
      · simp; omega
      · simp
      intro g' cap' w1 hown1 hg1 hat1 _
      have PUSH := Lib.hid (HS.out.push (x := (g : Int)) (g := g') (cap' := cap') (W1 := w1) (by rw [HK.out]; exact hg1) (by rw [HK.out]; exact hown1) (by rw [HK.out]; exact hat1))
      rw [HK.out] at PUSH
      have hB1 := below_grown ((Below.refl (M + 1 + 1 + 1 + 1) wr).alloc hsz _) (OWN.out.alloc _) hg1 (by simp; omega)
      have b1 := HS.out.sov.below hB1 (by omega)
      have HB1 := Lib.hid hB1
      clear hown1 hg1 hat1 q0 f0 lt0
      have q0 := b1.cell 0
      have f0 := b1.frozen 0
      simp only [List.getElem?_toArray, List.getElem?_cons_zero] at q0
      have n0 := (HS.out.nxt.below hB1 (by omega)).cell 0
      simp only [List.getElem?_toArray, List.getElem?_cons_zero] at n0
      clear b1 hB1
      have IH := Lib.hid (HIH.out (so ++ [(g : Int)]) bg _ (by rw [List.length_append, HK.out]; simp; omega) (HSO.out.snoc (by omega) (by omega)) ⟨_, a, n, cap, c, PUSH.out⟩)
      rw [← hf.out] at IH
      go_wp2_with fail
      refine IH.out.mono ?_
      rintro e w3 ⟨⟨v, rfl⟩, hC3⟩
      obtain ⟨vs3, a3, n3, cap3, c3, hS3⟩ := hC3
      have hwf3 : ∃ g3 cs3, vs3 = .slice (some ⟨g3, 0, none⟩) (ls + 1) cs3 := by
        have ho := hS3.own
        rw [List.length_append, HK.out] at ho
        obtain ⟨g3, cp3, h3, _⟩ := own_out ho (by simp)
        exact ⟨g3, cp3, by simpa using h3⟩
      obtain ⟨g3, cs3, rfl⟩ := hwf3
      have hcap3 : ls + 1 ≤ cs3 := by
        have ho := hS3.own
        rw [List.length_append, HK.out] at ho
        obtain ⟨g4, cp4, h4, h5, _⟩ := own_out ho (by simp)
        cases h4
        simpa using h5
      have POP := Lib.hid hS3.pop
      rw [HK.out] at POP
      have p0 := hS3.sov.cell 0
      have pf := hS3.sov.frozen 0
      simp only [List.getElem?_toArray, List.getElem?_cons_zero] at p0
      clear hS3 q0 f0 n0 PUSH IH HS
      go_wp2_with fail
      go_roundw
      case rel => exact ⟨g + 1, hlt, by go_num, _, a3, n3, cap3, c3, POP.out⟩
      case measure => simp [intOf]; omega
    · obtain rfl : g = nG := by omega
      go_wp2_with fail
      go_end0
      exact ⟨⟨_, rfl⟩, hCh.out⟩

theorem choose_all (w : World) (M : Nat) (j : Job) (aE aL aG : Option Addr) (nE nL nG eE eL eG : Nat) (hnE : j.Ends.length = nE) (hJ : JobV w w.heap.size (.agg #[.slice aE nE eE, .slice aL nL eL, .slice aG nG eG, .int .i64 j.Factor, .int .i64 j.Over]) j) (hok : checkJob j = 0) (hgr : j.Grades.length = nG) (d : Nat) :
    ∀ (so : List Int) (b : Option (List Int)) (W : World), so.length + d = nE → GradesSo so nG → Ch w M #[.slice aE nE eE, .slice aL nL eL, .slice aG nG eG, .int .i64 j.Factor, .int .i64 j.Over] j W so b →
      Calls Try.prog 62 #[.pointer (some ⟨M + 1 + 1, 0, none⟩), .pointer (some ⟨w.heap.size, 0, none⟩), .pointer (some ⟨M + 1, 0, none⟩), .pointer (some ⟨M + 1 + 1 + 1, 0, none⟩)] W fun e W' => (∃ v, e = .returned v) ∧ Ch w M #[.slice aE nE eE, .slice aL nL eL, .slice aG nG eG, .int .i64 j.Factor, .int .i64 j.Over] j W' so (explore j d so b) := by
  have hgood := checkJob_good hok
  induction d with
  | zero =>
    intro so b W hl hso hC
    exact choose_leaf w M j aE aL aG nE nL nG eE eL eG hnE hJ hok hgr so b W (by omega) hso hC
  | succ d ih =>
    intro so b W hl hso hC
    have := choose_step w M j aE aL aG nE nL nG eE eL eG (by rw [← hgr]; exact hgood.ngr) (by rw [← hnE]; exact hgood.ends.few) d ih so b W hl hso hC
    rw [explore, hgr]
    exact this

/-- what Choose hands back -/
def ChosenV (w : World) (j : Job) (e : Ending) (w' : World) : Prop :=
  (match chooseOf j with
   | none => e = .returned (.tuple #[.slice none 0 0, .bool false])
   | some l => ∃ A c, e = .returned (.tuple #[.slice A l.length c, .bool true]) ∧ Ints w' w'.heap.size A l) ∧ Below w.heap.size w w'

set_option maxHeartbeats 4000000 in
set_option maxRecDepth 100000 in
theorem casing_Choose (j : Job) (v0 : Value) (w : World) (hv : JobV w w.heap.size v0 j) :
    Calls Try.prog 36 #[v0] w (ChosenV w j) := by
  have HV := Lib.hid hv
  obtain ⟨AE, cE, AL, cL, AG, cG, rfl, _, _, _, _⟩ := hv
  have HCK := Lib.hid (fun W (hW : Below w.heap.size w W) => casing_Check j _ W (HV.out.below hW))
  have HALL := Lib.hid (fun M hok => choose_all w M j AE AL AG _ _ _ cE cL cG rfl HV.out hok rfl)
  have HCO : Hid (chooseOf j = if checkJob j = 0 then explore j j.Ends.length [] none else none) := rfl
  have hnq := fun (W : World) (a : Option Addr) (n c n' c' : Nat) => run_neq_slice_nil_any (P := Try.prog) W 37 3 a n c n' c' Try.underlying37
  generalize checkJob j = r at *
  generalize hnE : j.Ends.length = nE at *
  generalize j.Loads.length = nL at *
  generalize j.Grades.length = nG at *
  have HB := Lib.hid ((Below.refl w.heap.size w).alloc (Nat.le_refl _) (.cells #[.slice AE nE cE, .slice AL nL cL, .slice AG nG cG, .int .i64 j.Factor, .int .i64 j.Over] 36))
  have B0 := Lib.hid (Box.new w 36 #[.slice AE nE cE, .slice AL nL cL, .slice AG nG cG, .int .i64 j.Factor, .int .i64 j.Over] rfl)
  clear hnE
  by_cases h1 : r = 0
  case neg =>
    have h1' : (r != 0) = true := by simpa using h1
    rw [if_neg h1] at HCO
    go_enter Try.func36, Try.ntmps36
    go_wp2_with fail
    refine (HCK.out _ HB.out).mono ?_
    rintro e w1 ⟨rfl, hb1⟩
    go_wp2_with fail
    go_ret2
    refine ⟨?_, HB.out.trans (hb1.mono HB.out.size)⟩
    rw [HCO.out]
    rfl
  rw [if_pos h1] at HCO
  have HAL := Lib.hid (fun M => HALL.out M h1)
  subst h1
  go_enter Try.func36, Try.ntmps36
  go_wp2_with fail
  refine (HCK.out _ HB.out).mono ?_
  rintro e w1 ⟨rfl, hb1⟩
  have HB1 := Lib.hid (HB.out.trans (hb1.mono HB.out.size))
  have hM : w.heap.size < w1.heap.size := by have := hb1.size; simp at this; omega
  have Hjb := Lib.hid (B0.out.under hb1)
  clear hb1
  obtain ⟨F, hF⟩ : ∃ F : Value, F = .func (.func 62) #[] #[.pointer (some ⟨w1.heap.size + 1 + 1, 0, none⟩), .pointer (some ⟨w.heap.size, 0, none⟩), .pointer (some ⟨w1.heap.size + 1, 0, none⟩), .pointer (some ⟨w1.heap.size + 1 + 1 + 1, 0, none⟩)] := ⟨_, rfl⟩
  have HF := Lib.hid hF
  clear hF
  obtain ⟨w2, hw2⟩ : ∃ w2, ((((w1.alloc (.cells #[.slice none 0 0, .int .i64 0] 89)).alloc (.cells #[.pointer (some ⟨w1.heap.size, 0, none⟩)] 87)).alloc (.cells #[.slice none 0 0] 37)).alloc (.cells #[.func (.func 62) #[] #[.pointer (some ⟨w1.heap.size + 1 + 1, 0, none⟩), .pointer (some ⟨w.heap.size, 0, none⟩), .pointer (some ⟨w1.heap.size + 1, 0, none⟩), .pointer (some ⟨w1.heap.size + 1 + 1 + 1, 0, none⟩)]] 1)) = w2 := ⟨_, rfl⟩
  have hCS : Ch w w1.heap.size #[.slice AE nE cE, .slice AL nL cL, .slice AG nG cG, .int .i64 j.Factor, .int .i64 j.Over] j w2 [] none := by
    rw [← hw2]
    refine ⟨.slice none 0 0, none, 0, 0, 0, (((Hjb.out.alloc _).alloc _).alloc _).alloc _, (((Box.new w1 _ _ rfl).alloc _).alloc _).alloc _, ((Box.new _ _ _ (by simp)).alloc _).alloc _, (Box.new _ _ _ (by simp)).alloc _, Box.new _ _ _ (by simp), World.ownsRow_nil _ _ _ _, ⟨rfl, rfl, rfl⟩, .inl rfl, ?_, hM, by simp⟩
    have h := HB1.out.size
    exact (((HB1.out.alloc h _).alloc (by simp; omega) _).alloc (by simp; omega) _).alloc (by simp; omega) _
  have IH := Lib.hid (HAL.out w1.heap.size nE [] none w2 (by simp) (GradesSo.nil _) hCS)
  rw [← HCO.out] at IH
  have HW2 := Lib.hid hw2
  clear hw2 hCS
  go_wp2_with fail
  rw [HW2.out]
  refine IH.out.mono ?_
  rintro e w3 ⟨⟨v, rfl⟩, hC3⟩
  obtain ⟨vs, a, n, cap, c, hS⟩ := hC3
  have HS := Lib.hid hS
  have q0 := hS.bvar.cell 0
  have q1 := hS.best.cell 0
  simp only [List.getElem?_toArray, List.getElem?_cons_zero] at q0 q1
  clear hS IH HW2 HAL HALL
  go_wp2_with fail
  go_quiet (fail)
  go_wp2_with fail
  go_ret2
  refine ⟨?_, belowDrewN HS.out.low _⟩
  have hok := HS.out.ok
  cases hb : chooseOf j with
  | none =>
    rw [hb] at hok
    obtain ⟨rfl, rfl, rfl⟩ := hok
    rfl
  | some l =>
    rw [hb] at hok
    obtain ⟨h1, h2, h3, _⟩ := hok
    subst h2
    obtain ⟨A, c', hv, _, hI⟩ := Ints.own h3
    refine ⟨a, cap, ?_, ?_⟩
    · cases a with
      | none => cases h1
      | some a => rfl
    · injection hv with hv1 _ _
      rw [hv1]
      exact hI

end Go.Proofs.Ytannipfohicpmaa

/- Walks of the reference of layer 5: the best choice. -/
namespace Mpl
theorem bears_of {j : Job} {l : List Int} (hok : checkJob j = 0) (hi : isChoice j l = true) : bears j l = ((bearsFrom j l 0 l.length).1, (bearsFrom j l 0 l.length).2, 0) := by
  unfold bears
  rw [if_neg (by simp [hok]), if_neg (by simp [hi])]
/-- whether a choice is taken -/
def takes (j : Job) (b : Option (List Int)) (c : List Int) : Bool :=
  decide ((bearsFrom j c 0 c.length).1 < 0) && (match b with | none => true | some l => decide (sumCost j c < sumCost j l))
theorem better_takes (j : Job) (b : Option (List Int)) (c : List Int) : better j b c = if takes j b c then some c else b := by
  unfold better takes
  by_cases h : (bearsFrom j c 0 c.length).1 < 0
  · rw [if_pos h, decide_eq_true h]
    cases b with
    | none => rfl
    | some l => simp only [Bool.true_and, decide_eq_true_eq]
  · rw [if_neg h, decide_eq_false h]
    rfl
theorem takes_no {j : Job} {b : Option (List Int)} {c : List Int} (h : ¬ (bearsFrom j c 0 c.length).1 < 0) : takes j b c = false := by unfold takes; rw [decide_eq_false h]; rfl
theorem takes_none {j : Job} {c : List Int} (h : (bearsFrom j c 0 c.length).1 < 0) : takes j none c = true := by unfold takes; rw [decide_eq_true h]; rfl
theorem takes_some {j : Job} {l c : List Int} (h : (bearsFrom j c 0 c.length).1 < 0) : takes j (some l) c = decide (sumCost j c < sumCost j l) := by unfold takes; rw [decide_eq_true h]; rfl
theorem bears_sign (j : Job) (l : List Int) : ((bearsFrom j l 0 l.length).1 < 0 ∧ (bearsFrom j l 0 l.length).1 = -1) ∨ (¬ (bearsFrom j l 0 l.length).1 < 0 ∧ ((bearsFrom j l 0 l.length).1 == -1) = false) := by
  rcases bears_shape j l 0 l.length with ⟨h, _⟩ | ⟨k, _, _, _, h⟩
  · rw [h]; exact .inl ⟨by omega, rfl⟩
  · rw [h]; exact .inr ⟨by omega, beq_eq_false_iff_ne.2 (by omega)⟩
theorem zeroFrom_set {c : List Int} {k : Nat} (h : ZeroFrom c (k + 1)) : ZeroFrom (c.set k 0) k := by
  intro i hi hl
  rw [List.length_set] at hl
  by_cases e : i = k
  · subst e
    simp [pick, hl]
  · have := h i (by omega) hl
    simpa [pick, List.getElem?_set, Ne.symm e] using this
theorem pick_set_ne {c : List Int} {k i : Nat} {x : Int} (h : i ≠ k) : pick (c.set k x) i = pick c i := by simp [pick, Ne.symm h]
theorem pick_set_eq {c : List Int} {k : Nat} {x : Int} (h : k < c.length) : pick (c.set k x) k = x := by simp [pick, h]
end Mpl
namespace Go.Proofs.Ytannipfohicpmaa
open Go.RowKit Go.Shelf Go.Deep Mpl

theorem gradesSo_set {c : List Int} {n k : Nat} {x : Int} (h : GradesSo c n) (h0 : 0 ≤ x) (h1 : x < (n : Int)) : GradesSo (c.set k x) n := by
  intro i hi
  rw [List.length_set] at hi
  by_cases e : i = k
  · subst e
    rw [pick_set_eq hi]
    exact ⟨h0, h1⟩
  · rw [pick_set_ne e]
    exact h i hi

theorem gradesSo_zero {n m : Nat} (h : 0 < n) : GradesSo (List.replicate m 0) n := by
  intro i hi
  have : i < m := by simpa using hi
  simp [pick, this]
  omega
/-- numbers as cells -/
def rowC (c : List Int) : Array Value := (c.map (Value.int .i64)).toArray
theorem rowC_get {c : List Int} {i : Nat} (h : i < c.length) : (rowC c)[i]? = some (.int .i64 (pick c i)) := by
  unfold rowC
  simp [pick, h]
theorem rowC_set (c : List Int) (i : Nat) (v : Int) : (rowC c).setIfInBounds i (.int .i64 v) = rowC (c.set i v) := by
  unfold rowC
  simp
theorem rowC_zero (n : Nat) : madeCells #[Value.int .i64 0] (n * 1) = rowC (List.replicate n 0) := by
  apply Array.ext_getElem?
  intro k
  unfold madeCells rowC
  by_cases h : k < n <;> simp [h, Nat.mod_one]
theorem run_make_int (n : Nat) (hn : n ≤ 1000) (w : World) :
    (Instr.makeSlice 37 (.int .i64 (n : Int)) (.int .i64 (n : Int))).run Try.prog w = .ok (.slice (some ⟨w.heap.size, 0, none⟩) n n) (w.alloc (.cells (rowC (List.replicate n 0)) 3)) := by
  obtain ⟨i0, hi, hz0, hz1, hz2⟩ := info_parts info_int
  have hr := run_make (P := Try.prog) w 37 3 i0 (.int .i64 0) Try.underlying37 hi hz0 .i64 .i64 n n (by omega) (by omega) (by rw [hz2]; omega) (by omega)
  simp only [Int.toNat_natCast] at hr
  rw [hr, hz1]
  show _ = Result.ok _ (w.alloc (.cells _ _))
  rw [← rowC_zero]
  rfl
theorem Ints.row {W : World} {g t : Nat} {c : List Int} (h : Box W g t (rowC c)) : Ints W W.heap.size (some ⟨g, 0, none⟩) c := fun _ => ⟨g, 0, rfl, h.lt, fun i hi => by
  rw [Nat.zero_add, h.cell i, rowC_get hi]⟩
/-- the numbers of a block -/
def rowOf (W : World) (g : Nat) : List Int := match W.heap[g]? with | some (.cells cs _ _) => cs.toList.map intOf | _ => []
theorem rowOf_box {W : World} {g t : Nat} {c : List Int} (h : Box W g t (rowC c)) : rowOf W g = c := by
  unfold rowOf
  unfold Box at h
  rw [h]
  simp [rowC, Function.comp_def, intOf]

/-- the best choice so far -/
def RcBest (W : World) (j : Job) (g : Nat) (bv : Value) (b : Option (List Int)) : Prop :=
  match b with
  | none => bv = .slice none 0 0
  | some l => isChoice j l = true ∧ ∃ gb cap, bv = .slice (some ⟨gb, 0, none⟩) l.length cap ∧ g < gb ∧ Ints W W.heap.size (some ⟨gb, 0, none⟩) l
/-- the state of the search of the document: the choice in block g, the best one so far -/
structure RcSt (w W : World) (jc : Array Value) (j : Job) (g : Nat) (c : List Int) (bv : Value) (b : Option (List Int)) : Prop where
  job : Box W w.heap.size 36 jc
  row : Box W g 3 (rowC c)
  best : RcBest W j g bv b
  low : Below w.heap.size w W
  lt : w.heap.size < g
section
variable {w W W' : World} {jc : Array Value} {j : Job} {g : Nat} {c : List Int} {bv : Value} {b : Option (List Int)}
theorem RcBest.up (h : RcBest W j g bv b) (hb : Below W.heap.size W W') : RcBest W' j g bv b := by
  cases b with
  | none => exact h
  | some l => obtain ⟨h0, gb, cap, h1, h2, h3⟩ := h; exact ⟨h0, gb, cap, h1, h2, h3.up hb hb.size⟩
theorem RcSt.under (h : RcSt w W jc j g c bv b) (hb : Below W.heap.size W W') : RcSt w W' jc j g c bv b :=
  ⟨h.job.under hb, h.row.under hb, h.best.up hb, h.low.trans (hb.mono h.low.size), h.lt⟩
theorem RcSt.put (h : RcSt w W jc j g c bv b) (i : Nat) (v : Int) : RcSt w (W.setCell ⟨g, i, none⟩ (.int .i64 v)) jc j g (c.set i v) bv b := by
  have hlt := h.lt
  refine ⟨h.job.far (by simp; omega) _, by rw [← rowC_set]; exact h.row.set_ i _, ?_, h.low.setCell (p := ⟨g, i, none⟩) (by simp; omega) _, hlt⟩
  have hb := h.best
  cases b with
  | none => exact hb
  | some l =>
    obtain ⟨h0, gb, cap, h1, h2, h3⟩ := hb
    refine ⟨h0, gb, cap, h1, h2, fun h4 => ?_⟩
    obtain ⟨b', o', e, h5, h6⟩ := h3 h4
    injection e with e
    injection e with e1 e2
    subst e1 e2
    exact ⟨gb, 0, rfl, by simpa using h5, fun i' hi' => by rw [World.cell?_setCell_other _ _ _ _ (by first | (simp; done) | (simp; omega))]; exact h6 i' hi'⟩
end

set_option maxHeartbeats 8000000 in
set_option maxRecDepth 100000 in
theorem ref05_Choose (j : Job) (v0 : Value) (w : World) (hv : JobV w w.heap.size v0 j) :
    Calls Try.prog 37 #[v0] w (ChosenV w j) := by
  have HV := Lib.hid hv
  obtain ⟨AE, cE, AL, cL, AG, cG, rfl, _, _, _, _⟩ := hv
  have HCK := Lib.hid (fun W (hW : Below w.heap.size w W) => ref05_Check j _ W (HV.out.below hW))
  have HCO : Hid (chooseOf j = if checkJob j = 0 then explore j j.Ends.length [] none else none) := rfl
  have hnq := fun (W : World) (a : Option Addr) (n c n' c' : Nat) => run_neq_slice_nil_any (P := Try.prog) W 37 3 a n c n' c' Try.underlying37
  have heq := eql_nil
  have HB := Lib.hid ((Below.refl w.heap.size w).alloc (Nat.le_refl _) (.cells #[.slice AE j.Ends.length cE, .slice AL j.Loads.length cL, .slice AG j.Grades.length cG, .int .i64 j.Factor, .int .i64 j.Over] 36))
  have B0 := Lib.hid (Box.new w 36 #[.slice AE j.Ends.length cE, .slice AL j.Loads.length cL, .slice AG j.Grades.length cG, .int .i64 j.Factor, .int .i64 j.Over] rfl)
  by_cases h1 : checkJob j = 0
  case neg =>
    have h1' : (checkJob j != 0) = true := by simpa using h1
    rw [if_neg h1] at HCO
    clear h1
    generalize checkJob j = r at *
    generalize j.Ends.length = nE at *
    generalize j.Loads.length = nL at *
    generalize j.Grades.length = nG at *
    go_enter Try.func37, Try.ntmps37
    go_wp2_with fail
    refine (HCK.out _ HB.out).mono ?_
    rintro e w1 ⟨rfl, hb1⟩
    go_wp2_with fail
    go_ret2
    refine ⟨?_, HB.out.trans (hb1.mono HB.out.size)⟩
    rw [HCO.out]
    rfl
  have gj := checkJob_good h1
  have hgpos := gj.gpos
  have hgr := gj.ngr
  have hepos := gj.ends.pos
  have hefew := gj.ends.few
  have HFO := Lib.hid (choose_fold h1 (by omega))
  have HIC := Lib.hid (fun (c : List Int) (hl : c.length = j.Ends.length) (hc : GradesSo c j.Grades.length) => isChoice_of h1 hl hc)
  have HBE := Lib.hid (fun c W (hW : Below w.heap.size w W) A cap (hI : Ints W W.heap.size A c) (hic : isChoice j c = true) (hn : c.length ≤ 1000) => (by have := ref05_Bears j c _ A cap W (HV.out.below hW) hI hn; rw [bears_of h1 hic] at this; exact this :
    Calls Try.prog 23 #[.agg #[.slice AE j.Ends.length cE, .slice AL j.Loads.length cL, .slice AG j.Grades.length cG, .int .i64 j.Factor, .int .i64 j.Over], .slice A c.length cap] W fun e w' => e = .returned (.tuple #[.int .i64 (bearsFrom j c 0 c.length).1, .int .i64 (bearsFrom j c 0 c.length).2, .int .i64 0]) ∧ Below W.heap.size W w'))
  have HCS := Lib.hid (fun c W (hW : Below w.heap.size w W) A cap (hI : Ints W W.heap.size A c) (hic : isChoice j c = true) (hn : c.length ≤ 1000) => (by have := ref05_Cost j c _ A cap W (HV.out.below hW) hI hn; rw [cost_choice hic] at this; exact this :
    Calls Try.prog 28 #[.agg #[.slice AE j.Ends.length cE, .slice AL j.Loads.length cL, .slice AG j.Grades.length cG, .int .i64 j.Factor, .int .i64 j.Over], .slice A c.length cap] W fun e w' => e = .returned (.int .i64 (sumCost j c)) ∧ Below W.heap.size W w'))
  rw [h1] at HCK
  clear HCO h1 gj HV
  generalize hnE : j.Ends.length = nE at *
  generalize j.Loads.length = nL at *
  generalize hnG : j.Grades.length = nG at *
  have HNE := Lib.hid hnE
  have HNG := Lib.hid hnG
  clear hnE hnG
  have hmk := run_make_int nE (by omega)
  go_enter Try.func37, Try.ntmps37
  go_wp2_with fail
  refine (HCK.out _ HB.out).mono ?_
  rintro e w1 ⟨rfl, hb1⟩
  have Hjb := Lib.hid (B0.out.under hb1)
  have HB1 := Lib.hid (HB.out.trans (hb1.mono HB.out.size))
  have hlt1 : w.heap.size < w1.heap.size := Hjb.out.lt
  have q0 := (show w1.cell? ⟨w.heap.size, 0, none⟩ = some (.slice AE nE cE) from Hjb.out.cell 0)
  clear hb1 HB B0 HCK
  go_upto_region 4 with fail
  obtain ⟨w2, hw2⟩ : ∃ w2, w1.alloc (.cells (rowC (List.replicate nE 0)) 3) = w2 := ⟨_, rfl⟩
  have RS := Lib.hid (show RcSt w w2 #[.slice AE nE cE, .slice AL nL cL, .slice AG nG cG, .int .i64 j.Factor, .int .i64 j.Over] j w1.heap.size (List.replicate nE 0) (.slice none 0 0) none from
    ⟨by rw [← hw2]; exact Hjb.out.alloc _, by rw [← hw2]; exact Box.new _ _ _ rfl, rfl, by rw [← hw2]; exact HB1.out.alloc HB1.out.size _, hlt1⟩)
  have HW2 := Lib.hid hw2
  clear hw2 q0 hmk Hjb HB1
  rw [HW2.out]
  go_wp2_with fail
  go_loopw [5] (fun s5 wr => ∃ (c : List Int) (b : Option (List Int)), Hid (c.length = nE) ∧ Hid (GradesSo c nG) ∧ Hid ((c :: toCome nG c nE).foldl (better j) b = chooseOf j) ∧ Hid (RcSt w wr #[.slice AE nE cE, .slice AL nL cL, .slice AG nG cG, .int .i64 j.Factor, .int .i64 j.Over] j w1.heap.size c s5 b)) (fun _ wr => (toCome nG (rowOf wr w1.heap.size) nE).length)
  case atStart => exact ⟨List.replicate nE 0, none, by simp [Hid], gradesSo_zero hgpos, HFO.out.symm, RS⟩
  case round =>
    obtain ⟨c, b, hcl, hgs, hfold, hS⟩ := hrel
    have hic := Lib.hid (HIC.out c hcl.out hgs.out)
    have hn5 : c.length ≤ 1000 := by rw [hcl.out]; omega
    have HB1 := Lib.hid (fun W (hW : RcSt w W #[.slice AE nE cE, .slice AL nL cL, .slice AG nG cG, .int .i64 j.Factor, .int .i64 j.Over] j w1.heap.size c u5 b) => HBE.out c W hW.low _ nE (Ints.row hW.row) hic.out hn5)
    have HC1 := Lib.hid (fun W (hW : RcSt w W #[.slice AE nE cE, .slice AL nL cL, .slice AG nG cG, .int .i64 j.Factor, .int .i64 j.Over] j w1.heap.size c u5 b) => HCS.out c W hW.low _ nE (Ints.row hW.row) hic.out hn5)
    have hbt := Lib.hid (better_takes j b c)
    have hcl2 := hcl.out
    rw [hcl2] at HB1 HC1
    obtain ⟨p0, p1, p2, p3, p4⟩ := job_box hS.out.job
    go_wp2_with fail
    refine (HB1.out _ hS.out).mono ?_
    rintro e w3 ⟨rfl, hb3⟩
    have S3 := Lib.hid (hS.out.under hb3)
    clear hb3 p0 p1 p2 p3 p4 HB1
    go_upto_region 6 with fail
    go_cut [38] (fun s38 wx => s38 = .bool (takes j b c) ∧ Hid (RcSt w wx #[.slice AE nE cE, .slice AL nL cL, .slice AG nG cG, .int .i64 j.Factor, .int .i64 j.Over] j w1.heap.size c u5 b))
    case first =>
      have hsg := bears_sign j c
      have htn := Lib.hid (fun h => takes_no (j := j) (b := b) (c := c) h)
      have hts0 := Lib.hid (fun h => takes_none (j := j) (c := c) h)
      have hts1 := Lib.hid (fun l h => takes_some (j := j) (l := l) (c := c) h)
      rw [hcl2] at hsg htn hts0 hts1
      clear hcl2 hn5 hfold hbt
      generalize (bearsFrom j c 0 nE).snd = r1 at *
      generalize (bearsFrom j c 0 nE).fst = r0 at *
      rcases hsg with ⟨hneg, hm1⟩ | ⟨hneg, hm1⟩
      · subst hm1
        have hmm : ((-1 : Int) == -1) = true := by decide
        clear htn
        cases b with
        | none =>
          have htk := Lib.hid (hts0.out hneg)
          obtain rfl : u5 = .slice none 0 0 := S3.out.best
          clear hts0 hts1 hneg
          go_quiet (fail)
          go_wp2_with fail
          go_meet
          exact ⟨by rw [htk.out], S3.out.under (belowDrewN (Below.refl _ _) _)⟩
        | some l =>
          have htk := Lib.hid (hts1.out l hneg)
          obtain ⟨hil, gb, cap, rfl, hgb, hIb⟩ := S3.out.best
          clear hts0 hts1 hneg hIb
          have hnl : l.length ≤ 1000 := by have := (isChoice_chosen hil).same; have := HNE.out; omega
          have HC2 := Lib.hid (fun W (hW : RcSt w W #[.slice AE nE cE, .slice AL nL cL, .slice AG nG cG, .int .i64 j.Factor, .int .i64 j.Over] j w1.heap.size c (.slice (some ⟨gb, 0, none⟩) l.length cap) (some l)) => HCS.out l W hW.low (some ⟨gb, 0, none⟩) cap (by
            obtain ⟨_, gb', cap', e, _, h3⟩ := hW.best
            injection e with e1 _ _
            injection e1 with e1
            injection e1 with e1
            subst e1
            exact h3) hil hnl)
          clear hil hnl
          generalize l.length = nl at *
          generalize sumCost j c = sc at *
          generalize sumCost j l = sl at *
          obtain ⟨p0, p1, p2, p3, p4⟩ := job_box S3.out.job
          have S3d : Hid (RcSt w w3.drew #[.slice AE nE cE, .slice AL nL cL, .slice AG nG cG, .int .i64 j.Factor, .int .i64 j.Over] j w1.heap.size c (.slice (some ⟨gb, 0, none⟩) nl cap) (some l)) := S3.out.under (Below.refl _ _).drew
          go_region_held3 (fun w' => w'.cell? ⟨w.heap.size, 0, none⟩ = some (.slice AE nE cE) ∧ w'.cell? ⟨w.heap.size, 1, none⟩ = some (.slice AL nL cL) ∧ w'.cell? ⟨w.heap.size, 2, none⟩ = some (.slice AG nG cG) ∧ w'.cell? ⟨w.heap.size, 3, none⟩ = some (.int .i64 j.Factor) ∧ w'.cell? ⟨w.heap.size, 4, none⟩ = some (.int .i64 j.Over))
            (first | exact ⟨p0, p1, p2, p3, p4⟩ | exact job_box S4.out.job | exact job_box S5.out.job)
            (first
              | (go_at_call 28; (with_reducible refine (HC1.out _ S3d.out).mono ?_); rintro e w4 ⟨rfl, hb4⟩; have S4 := Lib.hid (S3d.out.under hb4); clear hb4)
              | (go_at_call 28; (with_reducible refine (HC2.out _ S4.out).mono ?_); rintro e w5 ⟨rfl, hb5⟩; have S5 := Lib.hid (S4.out.under hb5); clear hb5)
              | fail)
          go_wp2_with fail
          go_meet
          exact ⟨by rw [htk.out], S5⟩
      · have htk := Lib.hid (htn.out hneg)
        clear hts0 hts1 hneg htn
        go_quiet (fail)
        go_wp2_with fail
        go_meet
        exact ⟨by rw [htk.out], S3.out.under (belowDrewN (Below.refl _ _) _)⟩
    case rest =>
      obtain ⟨rfl, hS2⟩ := hcut
      have HF2 := Lib.hid (show (toCome nG c nE).foldl (better j) (better j b c) = chooseOf j from hfold.out)
      have hrw := Lib.hid (rowOf_box hS.out.row)
      clear HC1 S3 hS hfold
      generalize better j b c = nb at *
      generalize takes j b c = tk at *
      go_upto_if 38 with fail
      go_cut [5] (fun s5 wx => Hid (RcSt w wx #[.slice AE nE cE, .slice AL nL cL, .slice AG nG cG, .int .i64 j.Factor, .int .i64 j.Over] j w1.heap.size c s5 nb))
      case first =>
        cases tk
        · obtain rfl : nb = b := by rw [hbt.out]; rfl
          go_wp2_with fail
          go_meet
          exact hS2
        · obtain rfl : nb = some c := by rw [hbt.out]; rfl
          obtain ⟨i0, hi, hz0, hz1, hz2⟩ := info_parts info_int0
          have HO : Hid ((wc.alloc (.cells #[] 3)).ownsRow wc.heap.size 3 1 (.slice (some ⟨wc.heap.size, 0, none⟩) 0 0) 0 []) := World.ownsRow_lit wc #[] 0 (Nat.le_refl _) (by unfold maxLen; omega) rfl
          have HB3 := Lib.hid ((Below.refl wc.heap.size wc).alloc (Nat.le_refl _) (.cells #[] 3))
          have hsr := (Ints.row (hS2.out.under HB3.out).row).src
          rw [hcl.out] at hsr
          have HSR := Lib.hid hsr
          have HOne := Lib.hid (int_one c)
          have HOW := Lib.hid (fun (W : World) (base : Nat) v (h : W.ownsRow base 3 1 v nE (c.map (Value.int .i64))) => Ints.own h)
          clear hsr hcl2
          generalize c.map (Value.int .i64) = cells at *
          go_wp2_with (at_builtin; refine wpList_append_list _ rfl _ _ 37 rfl wc.heap.size 3 i0 (.int .i64 0) 1 8 Try.underlying37 hi hz0 hz1 hz2 rfl (by decide) _ 0 [] rfl HO.out (some ⟨w1.heap.size, 0, none⟩) nE nE cells rfl HSR.out HOne.out ?c1 ?c2 ?c3 ?_)
          case c1 => unfold maxLen; omega
          case c2 => omega
          intro v1 w4 hown hg
          have H12 := below_grown HB3.out HO.out hg (by simp)
          have S4 := hS2.out.under H12
          obtain ⟨A', c', hv', _, hI⟩ := HOW.out _ _ _ hown
          obtain ⟨A2, c2, hv2, _, hA⟩ := own_form hown
          obtain ⟨g', rfl, hg', _, _⟩ := hA hepos
          have HS5 : Hid (RcSt w w4 #[.slice AE nE cE, .slice AL nL cL, .slice AG nG cG, .int .i64 j.Factor, .int .i64 j.Over] j w1.heap.size c v1 (some c)) := by
            refine ⟨S4.job, S4.row, ⟨hic.out, g', c2, by rw [hcl.out]; exact hv2, ?_, ?_⟩, S4.low, S4.lt⟩
            · have := hS2.out.row.lt; omega
            · rw [hv2] at hv'
              injection hv' with e1 _ _
              rw [e1]
              exact hI
          clear hown hg H12 S4 hA hI hv' HO HB3 HSR HOne HOW
          go_wp2_with fail
          go_meet
          exact HS5
      case rest =>
        have HS0 := Lib.hid hcut.out
        clear hcut hS2 hbt heq hcl2 hic
        have HTT : Hid (toCome nG c nE = toCome nG c nE) := rfl
        obtain ⟨T, hT⟩ : ∃ T, toCome nG c nE = T := ⟨_, rfl⟩
        rw [hT] at HF2
        have HT := Lib.hid hT
        have HZ : Hid (ZeroFrom c nE) := fun i h1 h2 => absurd h2 (by have := hcl.out; omega)
        clear hT HTT
        go_wp2_with fail
        go_loopw [9] (fun s9 wi => ∃ (m : Nat) (k : Int) (c' : List Int), m ≤ nE ∧ s9 = .int .i64 k ∧ k + 1 = (m : Int) ∧ Hid (c'.length = nE) ∧ Hid (GradesSo c' nG) ∧ Hid (ZeroFrom c' m) ∧ Hid (toCome nG c' m = T) ∧ Hid (RcSt w wi #[.slice AE nE cE, .slice AL nL cL, .slice AG nG cG, .int .i64 j.Factor, .int .i64 j.Over] j w1.heap.size c' u5 nb)) (fun s9 _ => (intOf s9 + 1).toNat)
        case atStart => exact ⟨nE, (nE : Int) - 1, c, Nat.le_refl _, rfl, by omega, hcl, hgs, HZ, HT, HS0⟩
        case round =>
          obtain ⟨m, k, c', hm, rfl, hk, hl', hg', hz', hT', hS'⟩ := hrel
          obtain ⟨p0, p1, p2, p3, p4⟩ := job_box hS'.out.job
          rcases Nat.eq_zero_or_pos m with rfl | hm0
          · obtain rfl : k = -1 := by omega
            have hT0 : T = [] := by rw [← hT'.out, toCome_zero]
            have HF3 := Lib.hid (show nb = chooseOf j by have := HF2.out; rw [hT0] at this; exact this)
            clear hT0 hk hm
            have hbest := hS'.out.best
            have BL := Lib.hid hS'.out.low
            cases nb with
            | none =>
              obtain rfl : u5 = .slice none 0 0 := hbest
              go_wp2_with fail
              go_quiet (fail)
              go_wp2_with fail
              go_ret2
              refine ⟨?_, belowDrewN BL.out _⟩
              rw [← HF3.out]
              rfl
            | some l =>
              obtain ⟨_, gb, cap, rfl, _, hI⟩ := hbest
              have HI := Lib.hid hI
              clear hI
              go_wp2_with fail
              go_quiet (fail)
              go_wp2_with fail
              go_ret2
              refine ⟨?_, belowDrewN BL.out _⟩
              rw [← HF3.out]
              exact ⟨some ⟨gb, 0, none⟩, cap, rfl, HI.out⟩
          · obtain ⟨q, rfl⟩ : ∃ q, m = q + 1 := ⟨m - 1, by omega⟩
            obtain rfl : k = (q : Int) := by omega
            have hql : q < c'.length := by rw [hl'.out]; omega
            have r0 := hS'.out.row.cell q
            rw [rowC_get hql] at r0
            have f0 := hS'.out.row.frozen q
            obtain ⟨hp0, hp1⟩ := hg'.out q hql
            have hzq : (q : Int) < (nE : Int) := by omega
            have hz0 : (0 : Int) ≤ (q : Int) := by omega
            have HLAST := Lib.hid (fun hx => (toCome_last (n := nG) hql hx))
            have HSET := Lib.hid (toCome_set (n := nG) (c := c') (k := q) 0)
            have HNX := Lib.hid (fun h0 hx hz => toCome_next (n := nG) hql h0 hx hz)
            have hlg := hS'.out.row.lt
            generalize hpq : pick c' q = pq at *
            have HPQ := Lib.hid hpq
            clear hpq hk hm0
            by_cases he : pq = (nG : Int) - 1
            · have t0 : (pq == (nG : Int) - 1) = true := by simp [he]
              have hx : nG ≤ pq.toNat + 1 := by omega
              have HN := Lib.hid (HLAST.out hx)
              clear he hx HNX HLAST hp0 hp1
              go_wp2_with fail
              go_quiet (fail)
              go_wp2_with fail
              go_roundw
              case rel =>
                refine ⟨q, (q : Int) - 1, c'.set q 0, by omega, rfl, by omega, ?_, ?_, zeroFrom_set hz'.out, ?_, ?_⟩
                · unfold Hid; rw [List.length_set]; exact hl'.out
                · exact gradesSo_set hg'.out (by omega) (by omega)
                · unfold Hid; rw [HSET.out, ← HN.out]; exact hT'.out
                · exact (hS'.out.under (belowDrewN (Below.refl _ _) _)).put q 0
              case measure => first | (simp [intOf]; done) | (simp [intOf]; omega)
            · have t0 : (pq == (nG : Int) - 1) = false := by simp [he]
              have hx : pq.toNat + 1 < nG := by omega
              have hpx : pq + 1 < (nG : Int) := by omega
              have HN := Lib.hid (HNX.out hp0 hx hz'.out)
              have hw1 : IntKind.i64.wrap (pq + 1) = pq + 1 := IntWalk.i64_in _ (by omega)
              clear he hx HNX HLAST HSET
              rw [hl'.out] at HN
              go_wp2_with fail
              go_quiet (fail)
              go_wp2_with fail
              go_roundw
              case rel =>
                clear hw1
                refine ⟨c'.set q (pq + 1), nb, ?_, ?_, ?_, ?_⟩
                · unfold Hid; rw [List.length_set]; exact hl'.out
                · exact gradesSo_set hg'.out (by omega) (by omega)
                · unfold Hid
                  have h1 := HF2.out
                  rw [← hT'.out, HN.out] at h1
                  exact h1
                · exact (hS'.out.under (belowDrewN (Below.refl _ _) _)).put q (pq + 1)
              case measure =>
                clear hw1
                have hb' := rowOf_box ((hS'.out.under (belowDrewN (Below.refl _ wr) nq)).put q (pq + 1)).row
                rw [hrw.out, HT.out, ← hT'.out, HN.out]
                rw [hb']
                simp

end Go.Proofs.Ytannipfohicpmaa
