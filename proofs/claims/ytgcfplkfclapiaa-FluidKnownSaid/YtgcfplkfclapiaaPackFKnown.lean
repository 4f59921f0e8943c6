/- Several texts in one: Held2, Held3, Held4, FAnnulus, FRefHole, FWhere, SameLine, FSmall, FPumpLaw, FKitCol, FHeld, FGood, FPlain, FPump, FPump2, FEquiv. -/
import Derived.Test.YtgcfplkfclapiaaHeld
import Derived.Test.YtgcfplkfclapiaaKit
import Derived.Test.YtgcfplkfclapiaaFPlaces
import Derived.Deep.RegionHeld3
import Derived.Test.YtgcfplkfclapiaaFHeight2
import Derived.Deep.QuietTactic
import Derived.BigQuiet
import Derived.Test.YtgcfplkfclapiaaFVolume
import Derived.Test.YtgcfplkfclapiaaBase
import Derived.Test.YtgcfplkfclapiaaEarth3
import Derived.Test.YtgcfplkfclapiaaFBase
import Derived.Test.YtgcfplkfclapiaaFHole
import Derived.Test.YtgcfplkfclapiaaFColumn
import Derived.Test.YtgcfplkfclapiaaContains
import Derived.Test.YtgcfplkfclapiaaFMono
import Derived.Test.YtgcfplkfclapiaaFPress3
import Derived.Test.YtgcfplkfclapiaaFAwake
import Derived.Test.YtgcfplkfclapiaaFHeight
import Derived.BigRegion
import Derived.Deep.AppendLies
import Derived.Deep.DeepCutAuto
/- A region that draws its order, whose last operations write what the region reads: what holds between the operations need not hold behind those. -/
namespace Go.Proofs.Ytgcfplkfclapiaa
open Go.RowKit

section
variable {P : Program} {ops : Array Oper} {Q : Exit → Act → World → Prop} {md : Region.Mode} {S : World → Prop} {Z : Nat → Bool}

/-- any order from here on; S holds behind each operation but those of Z -/
def AnyLate (P : Program) (md : Region.Mode) (ops : Array Oper) (Q : Exit → Act → World → Prop) (S : World → Prop) (Z : Nat → Bool) : Nat → Array Bool → Act → World → Prop
  | 0, b, a, w => Region.ready md ops b = [] ∧ Q .normal a w
  | m + 1, b, a, w => (Region.ready md ops b = [] → Q .normal a w) ∧ ∀ i ∈ Region.ready md ops b, wpOp P ops Q i (fun a' w' => (Z i = false → S w') ∧ AnyLate P md ops Q S Z m (b.setIfInBounds i true) a' w') a w

theorem AnyLate.any : ∀ {m : Nat} {b : Array Bool} {a : Act} {w : World}, AnyLate P md ops Q S Z m b a w → wpAny P md ops Q m b a w
  | 0, _, _, _, h => h
  | _ + 1, _, _, _, h => ⟨h.1, fun i hi => wpOp_mono (fun _ _ k => AnyLate.any k.2) (h.2 i hi)⟩

theorem AnyLate.begin {id : Nat} {a : Act} {w : World} (hm : P.follows .mixedOrders = true) (h : AnyLate P .any ops Q S Z ops.size (Array.replicate ops.size false) a w.drew) : (Code.region id ops true).wp P Q a w :=
  wp_region_any hm h.any

/-- what is done has all done that it waits for -/
def Closed (md : Region.Mode) (ops : Array Oper) (b : Array Bool) : Prop := ∀ j o, ops[j]? = some o → b.getD j true = true → ∀ e ∈ o.after, Region.binds md e = true → b.getD e.on true = true
def closedB (md : Region.Mode) (ops : Array Oper) (b : Array Bool) : Bool := (List.range ops.size).all fun j => match ops[j]? with | some o => !(b.getD j true) || o.after.all (fun e => !(Region.binds md e) || b.getD e.on true) | none => true
theorem closed_of {b : Array Bool} (h : closedB md ops b = true) : Closed md ops b := fun j o ho hj e he hb => by
  unfold closedB at h
  rw [List.all_eq_true] at h
  have hlt : j < ops.size := (Array.getElem?_eq_some_iff.1 ho).1
  have := h j (List.mem_range.2 hlt)
  simp only [ho, hj, Bool.not_true, Bool.false_or, Array.all_eq_true'] at this
  have h2 := this e he
  rw [hb] at h2
  simpa using h2
theorem ready_after {b : Array Bool} {z : Nat} (hz : z ∈ Region.ready md ops b) : ∃ o, ops[z]? = some o ∧ ∀ e ∈ o.after, Region.binds md e = true → b.getD e.on true = true := by
  obtain ⟨_, o, ho, hall⟩ := mem_ready.1 hz
  refine ⟨o, ho, fun e he hb => ?_⟩
  have := hall e he hb
  rcases Nat.lt_or_ge e.on b.size with hl | hl
  · simp [hl] at this ⊢
    exact this
  · simp [hl]
theorem Closed.set {b : Array Bool} {j : Nat} (h : Closed md ops b) (hj : j ∈ Region.ready md ops b) : Closed md ops (b.setIfInBounds j true) := fun i o ho hi e he hb => by
  have up : ∀ k, b.getD k true = true → (b.setIfInBounds j true).getD k true = true := fun k hk => by
    by_cases hjk : j = k
    · subst hjk
      rcases Nat.lt_or_ge j b.size with hl | hl
      · simp [hl]
      · simp [hl]
    · rwa [getD_set_ne true hjk]
  by_cases hij : j = i
  · subst hij
    obtain ⟨o', ho', h2⟩ := ready_after hj
    rw [ho] at ho'
    injection ho' with ho'
    subst ho'
    exact up _ (h2 e he hb)
  · rw [getD_set_ne true hij] at hi
    exact up _ (h i o ho hi e he hb)
/-- number z waits for number i, by n others at most -/
def waitsN (md : Region.Mode) (ops : Array Oper) : Nat → Nat → Nat → Bool
  | 0, z, i => match ops[z]? with | some o => o.after.any (fun e => Region.binds md e && e.on == i) | none => false
  | n + 1, z, i => match ops[z]? with | some o => o.after.any (fun e => Region.binds md e && (e.on == i || waitsN md ops n e.on i)) | none => false
theorem done_waits {b : Array Bool} (hc : Closed md ops b) (n : Nat) : ∀ z i, b.getD z true = true → waitsN md ops n z i = true → b.getD i true = true := by
  induction n with
  | zero =>
    intro z i hz h
    unfold waitsN at h
    cases ho : ops[z]? with
    | none => simp [ho] at h
    | some o =>
      simp only [ho, Array.any_eq_true'] at h
      obtain ⟨e, he, h⟩ := h
      simp only [Bool.and_eq_true, beq_iff_eq] at h
      rw [← h.2]
      exact hc z o ho hz e he h.1
  | succ n ih =>
    intro z i hz h
    unfold waitsN at h
    cases ho : ops[z]? with
    | none => simp [ho] at h
    | some o =>
      simp only [ho, Array.any_eq_true'] at h
      obtain ⟨e, he, h⟩ := h
      simp only [Bool.and_eq_true, Bool.or_eq_true, beq_iff_eq] at h
      have hd := hc z o ho hz e he h.1
      rcases h.2 with h2 | h2
      · rw [← h2]; exact hd
      · exact ih _ _ hd h2
theorem ready_waits {b : Array Bool} (hc : Closed md ops b) (n : Nat) {z i : Nat} (hz : z ∈ Region.ready md ops b) (h : waitsN md ops n z i = true) : b.getD i true = true := by
  obtain ⟨o, ho, ha⟩ := ready_after hz
  cases n with
  | zero =>
    unfold waitsN at h
    simp only [ho, Array.any_eq_true'] at h
    obtain ⟨e, he, h⟩ := h
    simp only [Bool.and_eq_true, beq_iff_eq] at h
    rw [← h.2]
    exact ha e he h.1
  | succ n =>
    unfold waitsN at h
    simp only [ho, Array.any_eq_true'] at h
    obtain ⟨e, he, h⟩ := h
    simp only [Bool.and_eq_true, Bool.or_eq_true, beq_iff_eq] at h
    rcases h.2 with h2 | h2
    · rw [← h2]; exact ha e he h.1
    · exact done_waits hc n _ _ (ha e he h.1) h2

theorem AnyLate.first {i : Nat} {o : Oper} {v : Value} (ho : ops[i]? = some o) (hs : ∀ (j : Nat) (o : Oper) cs d, ops[j]? = some o → o.op ≠ .select cs d) (hQ : ∀ c a w, Q (.panic c) (a.put o.dst v) w → Q (.panic c) a w) {nf : Nat} (hw : ∀ z, Z z = true → waitsN md ops nf z i = true) :
    ∀ (m : Nat) (b : Array Bool) (a : Act) (w : World), Closed md ops b → (∀ j oj, ops[j]? = some oj → j ≠ i → b.getD j true = false → (∀ e ∈ oj.after, Region.binds md e = true → e.on ≠ i) → o.apart ops oj = true) →
      i ∈ Region.ready md ops b → YieldsIf P ops S o v a → S w → AnyLate P md ops Q S Z m (b.setIfInBounds i true) (a.put o.dst v) w → AnyLate P md ops Q S Z (m + 1) b a w
  | m, b, a, w, hc, hf, hr, hy, hS, H => by
    refine ⟨fun h => (by rw [h] at hr; cases hr), fun j hj => ?_⟩
    have hib : b.getD i true = false := (mem_ready.1 hr).1
    by_cases hji : j = i
    · subst hji
      exact hy.wpOp ho hS ⟨fun _ => hS, H⟩
    · have hjr := ready_mono hj hji
      have hjz : Z j = false := by
        cases e : Z j with
        | false => rfl
        | true => rw [ready_waits hc nf hj (hw j e)] at hib; cases hib
      cases m with
      | zero => rw [H.1] at hjr; cases hjr
      | succ m =>
        obtain ⟨hjb, oj, hoj, hall⟩ := mem_ready.1 hj
        have hno : ∀ e ∈ oj.after, Region.binds md e = true → e.on ≠ i := fun e he hb heq => by
          have h1 := hall e he hb
          rw [heq] at h1
          rcases Nat.lt_or_ge i b.size with hl | hl
          · simp [hl] at h1 hib
            rw [h1] at hib
            cases hib
          · simp [Array.getElem?_eq_none hl] at hib
        have hput := wpOp_putIf hoj (hf j oj hoj hji hjb hno) (fun cs d => hs i o cs d ho) (fun cs d => hs j oj cs d hoj) hQ hy (H.2 j hjr)
        refine wpOp_mono (fun a' w' k => ⟨fun _ => k.2.1 hjz, AnyLate.first ho hs hQ hw m _ a' w' (hc.set hj) (fun l ol hl hli hlb hn => hf l ol hl hli ?_ hn) (ready_mono hr (Ne.symm hji)) k.1 (k.2.1 hjz) ?_⟩) hput
        · by_cases hjl : j = l
          · subst hjl; exact hjb
          · rwa [getD_set_ne true hjl] at hlb
        · rw [Array.setIfInBounds_comm _ _ hji]
          exact k.2.2

theorem AnyLate.take {i : Nat} {o : Oper} {v : Value} {m : Nat} {b : Array Bool} {a : Act} {w : World} (zs : List Nat) (nf : Nat) (hz : ∀ z, Z z = true → z ∈ zs) (ho : ops[i]? = some o) (hs : Region.noSelect ops = true) (hf : Region.free md ops b i = true) (hr : (Region.ready md ops b).contains i = true) (hw : zs.all (fun z => waitsN md ops nf z i) = true) (hc : closedB md ops b = true)
    (hQ : ∀ c a w, Q (.panic c) (a.put o.dst v) w → Q (.panic c) a w) (hS : S w) (hy : YieldsIf P ops S o v a) (h : AnyLate P md ops Q S Z m (b.setIfInBounds i true) (a.put o.dst v) w) : AnyLate P md ops Q S Z (m + 1) b a w :=
  AnyLate.first ho (Region.noSelect_spec hs) hQ (fun z h => List.all_eq_true.1 hw z (hz z h)) m b a w (closed_of hc) (Region.free_spec ho hf) (by simpa using hr) hy hS h

theorem AnyLate.done {b : Array Bool} {a : Act} {w : World} (hr : Region.ready md ops b = []) (h : Q .normal a w) : ∀ {m : Nat}, AnyLate P md ops Q S Z m b a w
  | 0 => ⟨hr, h⟩
  | _ + 1 => ⟨fun _ => h, by rw [hr]; simp⟩
/-- just one operation may come up, one of Z -/
theorem AnyLate.only {i : Nat} {o : Oper} {m : Nat} {b : Array Bool} {a : Act} {w : World} (hr : Region.ready md ops b = [i]) (ho : ops[i]? = some o) (hg : o.guard = none) (hZ : Z i = true)
    (h : ∀ K : Act → World → Prop, (∀ a' w', AnyLate P md ops Q S Z m (b.setIfInBounds i true) a' w' → K a' w') → o.wp P a w K Q) : AnyLate P md ops Q S Z (m + 1) b a w :=
  ⟨fun h0 => (by rw [hr] at h0; cases h0), fun j hj => by
    rw [hr, List.mem_singleton] at hj
    subst hj
    unfold wpOp
    simp only [ho]
    rw [if_pos (by simp [Region.wanted, hg])]
    exact .inl (h _ fun a' w' h1 => ⟨fun e => (by rw [hZ] at e; cases e), h1⟩)⟩
/-- one of two operations may come up, both of Z -/
theorem AnyLate.pair {i j : Nat} {o o' : Oper} {m : Nat} {b : Array Bool} {a : Act} {w : World} (hr : Region.ready md ops b = [i, j]) (ho : ops[i]? = some o) (hg : o.guard = none) (hZ : Z i = true) (ho' : ops[j]? = some o') (hg' : o'.guard = none) (hZ' : Z j = true)
    (h : ∀ K : Act → World → Prop, (∀ a' w', AnyLate P md ops Q S Z m (b.setIfInBounds i true) a' w' → K a' w') → o.wp P a w K Q) (h' : ∀ K : Act → World → Prop, (∀ a' w', AnyLate P md ops Q S Z m (b.setIfInBounds j true) a' w' → K a' w') → o'.wp P a w K Q) : AnyLate P md ops Q S Z (m + 1) b a w :=
  ⟨fun h0 => (by rw [hr] at h0; cases h0), fun l hl => by
    rw [hr] at hl
    simp only [List.mem_cons, List.not_mem_nil, or_false] at hl
    rcases hl with rfl | rfl
    · unfold wpOp
      simp only [ho]
      rw [if_pos (by simp [Region.wanted, hg])]
      exact .inl (h _ fun a' w' h1 => ⟨fun e => (by rw [hZ] at e; cases e), h1⟩)
    · unfold wpOp
      simp only [ho']
      rw [if_pos (by simp [Region.wanted, hg'])]
      exact .inl (h' _ fun a' w' h1 => ⟨fun e => (by rw [hZ'] at e; cases e), h1⟩)⟩
end

end Go.Proofs.Ytgcfplkfclapiaa

/- A region that draws its order, with a store in its midst and one at its end: what holds before the store need not hold behind it. -/
namespace Go.Proofs.Ytgcfplkfclapiaa
open Go.RowKit

section
variable {P : Program} {ops : Array Oper} {Q : Exit → Act → World → Prop} {md : Region.Mode} {q : Nat} {S : Bool → World → Prop} {Z : Nat → Bool}

/-- any order from here on; S, told whether q is done, holds behind each operation but those of Z -/
def AnyMid (P : Program) (md : Region.Mode) (ops : Array Oper) (Q : Exit → Act → World → Prop) (q : Nat) (S : Bool → World → Prop) (Z : Nat → Bool) : Nat → Array Bool → Act → World → Prop
  | 0, b, a, w => Region.ready md ops b = [] ∧ Q .normal a w
  | m + 1, b, a, w => (Region.ready md ops b = [] → Q .normal a w) ∧ ∀ i ∈ Region.ready md ops b, wpOp P ops Q i (fun a' w' => (Z i = false → S ((b.setIfInBounds i true).getD q true) w') ∧ AnyMid P md ops Q q S Z m (b.setIfInBounds i true) a' w') a w

theorem AnyMid.any : ∀ {m : Nat} {b : Array Bool} {a : Act} {w : World}, AnyMid P md ops Q q S Z m b a w → wpAny P md ops Q m b a w
  | 0, _, _, _, h => h
  | _ + 1, _, _, _, h => ⟨h.1, fun i hi => wpOp_mono (fun _ _ k => AnyMid.any k.2) (h.2 i hi)⟩

theorem AnyMid.begin {id : Nat} {a : Act} {w : World} (hm : P.follows .mixedOrders = true) (h : AnyMid P .any ops Q q S Z ops.size (Array.replicate ops.size false) a w.drew) : (Code.region id ops true).wp P Q a w :=
  wp_region_any hm h.any

theorem AnyMid.first {T : World → Prop} {i : Nat} {o : Oper} {v : Value} (ho : ops[i]? = some o) (hs : ∀ (j : Nat) (o : Oper) cs d, ops[j]? = some o → o.op ≠ .select cs d) (hQ : ∀ c a w, Q (.panic c) (a.put o.dst v) w → Q (.panic c) a w) {nf : Nat} (hw : ∀ z, Z z = true → waitsN md ops nf z i = true) (hiq : i ≠ q)
    (h0 : ∀ w, S false w → T w) (h1 : waitsN md ops nf q i = true ∨ ∀ w, S true w → T w) :
    ∀ (m : Nat) (b : Array Bool) (a : Act) (w : World), Closed md ops b → (∀ j oj, ops[j]? = some oj → j ≠ i → b.getD j true = false → (∀ e ∈ oj.after, Region.binds md e = true → e.on ≠ i) → o.apart ops oj = true) →
      i ∈ Region.ready md ops b → YieldsIf P ops T o v a → S (b.getD q true) w → AnyMid P md ops Q q S Z m (b.setIfInBounds i true) (a.put o.dst v) w → AnyMid P md ops Q q S Z (m + 1) b a w
  | m, b, a, w, hc, hf, hr, hy, hS, H => by
    refine ⟨fun h => (by rw [h] at hr; cases hr), fun j hj => ?_⟩
    have hib : b.getD i true = false := (mem_ready.1 hr).1
    have hT : T w := by
      cases e : b.getD q true with
      | false => rw [e] at hS; exact h0 _ hS
      | true =>
        rcases h1 with h1 | h1
        · rw [done_waits hc nf _ _ e h1] at hib; cases hib
        · rw [e] at hS; exact h1 _ hS
    by_cases hji : j = i
    · subst hji
      refine hy.wpOp ho hT ⟨fun _ => ?_, H⟩
      rw [getD_set_ne true hiq]
      exact hS
    · have hjr := ready_mono hj hji
      have hjz : Z j = false := by
        cases e : Z j with
        | false => rfl
        | true => rw [ready_waits hc nf hj (hw j e)] at hib; cases hib
      cases m with
      | zero => rw [H.1] at hjr; cases hjr
      | succ m =>
        obtain ⟨hjb, oj, hoj, hall⟩ := mem_ready.1 hj
        have hno : ∀ e ∈ oj.after, Region.binds md e = true → e.on ≠ i := fun e he hb heq => by
          have h1 := hall e he hb
          rw [heq] at h1
          rcases Nat.lt_or_ge i b.size with hl | hl
          · simp [hl] at h1 hib
            rw [h1] at hib
            cases hib
          · simp [Array.getElem?_eq_none hl] at hib
        have hput := wpOp_putIf hoj (hf j oj hoj hji hjb hno) (fun cs d => hs i o cs d ho) (fun cs d => hs j oj cs d hoj) hQ hy (H.2 j hjr)
        have hk : ∀ w', S (((b.setIfInBounds i true).setIfInBounds j true).getD q true) w' → S ((b.setIfInBounds j true).getD q true) w' := fun w' h => by
          rw [Array.setIfInBounds_comm _ _ (Ne.symm hji), getD_set_ne true hiq] at h
          exact h
        refine wpOp_mono (fun a' w' k => ⟨fun _ => hk _ (k.2.1 hjz), AnyMid.first ho hs hQ hw hiq h0 h1 m _ a' w' (hc.set hj) (fun l ol hl hli hlb hn => hf l ol hl hli ?_ hn) (ready_mono hr (Ne.symm hji)) k.1 (hk _ (k.2.1 hjz)) ?_⟩) hput
        · by_cases hjl : j = l
          · subst hjl; exact hjb
          · rwa [getD_set_ne true hjl] at hlb
        · rw [Array.setIfInBounds_comm _ _ hji]
          exact k.2.2

/-- number i, for which q and the last ones wait: what it reads stands before q -/
theorem AnyMid.take (T : World → Prop) {i : Nat} {o : Oper} {v : Value} {m : Nat} {b : Array Bool} {a : Act} {w : World} (zs : List Nat) (nf : Nat) (hz : ∀ z, Z z = true → z ∈ zs) (h0 : ∀ w, S false w → T w) (h1 : waitsN md ops nf q i = true ∨ ∀ w, S true w → T w) (hS : S (b.getD q true) w) (ho : ops[i]? = some o)
    (hk : (Region.noSelect ops && Region.free md ops b i && (Region.ready md ops b).contains i && zs.all (fun z => waitsN md ops nf z i) && closedB md ops b && !(i == q)) = true)
    (hQ : ∀ c a w, Q (.panic c) (a.put o.dst v) w → Q (.panic c) a w) (hy : YieldsIf P ops T o v a) (h : AnyMid P md ops Q q S Z m (b.setIfInBounds i true) (a.put o.dst v) w) : AnyMid P md ops Q q S Z (m + 1) b a w := by
  simp only [Bool.and_eq_true] at hk
  obtain ⟨⟨⟨⟨⟨k1, k2⟩, k3⟩, k4⟩, k5⟩, k6⟩ := hk
  exact AnyMid.first ho (Region.noSelect_spec k1) hQ (fun z h => List.all_eq_true.1 k4 z (hz z h)) (by simpa using k6) h0 h1 m b a w (closed_of k5) (Region.free_spec ho k2) (by simpa using k3) hy hS h

theorem AnyMid.done {b : Array Bool} {a : Act} {w : World} (hr : Region.ready md ops b = []) (h : Q .normal a w) : ∀ {m : Nat}, AnyMid P md ops Q q S Z m b a w
  | 0 => ⟨hr, h⟩
  | _ + 1 => ⟨fun _ => h, by rw [hr]; simp⟩
/-- just one operation may come up -/
theorem AnyMid.only {i : Nat} {o : Oper} {m : Nat} {b : Array Bool} {a : Act} {w : World} (hr : Region.ready md ops b = [i]) (ho : ops[i]? = some o) (hg : o.guard = none)
    (h : ∀ K : Act → World → Prop, (∀ a' w', (Z i = false → S ((b.setIfInBounds i true).getD q true) w') → AnyMid P md ops Q q S Z m (b.setIfInBounds i true) a' w' → K a' w') → o.wp P a w K Q) : AnyMid P md ops Q q S Z (m + 1) b a w :=
  ⟨fun h0 => (by rw [hr] at h0; cases h0), fun j hj => by
    rw [hr, List.mem_singleton] at hj
    subst hj
    unfold wpOp
    simp only [ho]
    rw [if_pos (by simp [Region.wanted, hg])]
    exact .inl (h _ fun a' w' h1 h2 => ⟨h1, h2⟩)⟩
end

end Go.Proofs.Ytgcfplkfclapiaa

/- A region that draws its order: one operation taken first, its slot named, so that the frame does not grow. -/
namespace Go.Proofs.Ytgcfplkfclapiaa
open Go.RowKit

section
variable {P : Program} {ops : Array Oper} {Q : Exit → Act → World → Prop} {md : Region.Mode}
theorem AnyBut.takeD {S : World → Prop} {z : Nat} (i t : Nat) {o : Oper} {v : Value} {m : Nat} {b : Array Bool} {tm : Array Value} {de : List Deferred} {w : World} (ho : ops[i]? = some o) (hd : o.dst = some t) (hk : (Region.noSelect ops && Region.free md ops b i && (Region.ready md ops b).contains i && waits md ops z i) = true)
    (hQ : ∀ c a w, Q (.panic c) (a.put o.dst v) w → Q (.panic c) a w) (hS : S w) (hy : YieldsIf P ops S o v ⟨tm, de⟩) (h : AnyBut P md ops Q S z m (b.setIfInBounds i true) ⟨tm.setIfInBounds t v, de⟩ w) : AnyBut P md ops Q S z (m + 1) b ⟨tm, de⟩ w := by
  simp only [Bool.and_eq_true] at hk
  obtain ⟨⟨⟨k1, k2⟩, k3⟩, k4⟩ := hk
  refine AnyBut.take ho k1 k2 k3 k4 hQ hS hy ?_
  rw [hd]
  exact h
/-- one of two operations may come up -/
theorem AnyBut.two {S : World → Prop} {z : Nat} (i j : Nat) {o o' : Oper} {m : Nat} {b : Array Bool} {a : Act} {w : World} (hr : Region.ready md ops b = [i, j]) (ho : ops[i]? = some o) (hg : o.guard = none) (ho' : ops[j]? = some o') (hg' : o'.guard = none)
    (h : ∀ K : Act → World → Prop, (∀ a' w', (i ≠ z → S w') → AnyBut P md ops Q S z m (b.setIfInBounds i true) a' w' → K a' w') → o.wp P a w K Q)
    (h' : ∀ K : Act → World → Prop, (∀ a' w', (j ≠ z → S w') → AnyBut P md ops Q S z m (b.setIfInBounds j true) a' w' → K a' w') → o'.wp P a w K Q) : AnyBut P md ops Q S z (m + 1) b a w :=
  ⟨fun h0 => (by rw [hr] at h0; cases h0), fun l hl => by
    rw [hr] at hl
    simp only [List.mem_cons, List.not_mem_nil, or_false] at hl
    rcases hl with rfl | rfl
    · unfold wpOp
      simp only [ho]
      rw [if_pos (by simp [Region.wanted, hg])]
      exact .inl (h _ fun a' w' h1 h2 => ⟨h1, h2⟩)
    · unfold wpOp
      simp only [ho']
      rw [if_pos (by simp [Region.wanted, hg'])]
      exact .inl (h' _ fun a' w' h1 h2 => ⟨h1, h2⟩)⟩
theorem AnyMid.takeD {q : Nat} {S : Bool → World → Prop} {Z : Nat → Bool} (T : World → Prop) (i t : Nat) {o : Oper} {v : Value} {m : Nat} {b : Array Bool} {tm : Array Value} {de : List Deferred} {w : World} (zs : List Nat) (nf : Nat) (hz : ∀ z, Z z = true → z ∈ zs) (h0 : ∀ w, S false w → T w) (h1 : waitsN md ops nf q i = true ∨ ∀ w, S true w → T w) (hS : S (b.getD q true) w) (ho : ops[i]? = some o) (hd : o.dst = some t)
    (hk : (Region.noSelect ops && Region.free md ops b i && (Region.ready md ops b).contains i && zs.all (fun z => waitsN md ops nf z i) && closedB md ops b && !(i == q)) = true)
    (hQ : ∀ c a w, Q (.panic c) (a.put o.dst v) w → Q (.panic c) a w) (hy : YieldsIf P ops T o v ⟨tm, de⟩) (h : AnyMid P md ops Q q S Z m (b.setIfInBounds i true) ⟨tm.setIfInBounds t v, de⟩ w) : AnyMid P md ops Q q S Z (m + 1) b ⟨tm, de⟩ w := by
  refine AnyMid.take T zs nf hz h0 h1 hS ho hk hQ hy ?_
  rw [hd]
  exact h
end

end Go.Proofs.Ytgcfplkfclapiaa

/- Walks of moonpoolkit: a hole made of numbers. -/
namespace Mpl
structure SegMade (s : Seg) : Prop where
  l0 : 1 ≤ s.Long
  l1 : s.Long ≤ 100000
  r0 : 0 ≤ s.Rise
  r1 : s.Rise ≤ s.Long
  a0 : 1 ≤ s.Area
  a1 : s.Area ≤ 1500
  g0 : 1 ≤ s.Gap
  g1 : s.Gap ≤ 200
theorem SegMade.good {s : Seg} (h : SegMade s) : GoodSeg s := ⟨h.l0, h.r0, h.r1, h.a0, by have := h.a1; omega, h.g0, h.g1⟩
/-- a hole made of numbers -/
structure Annular (h : List Seg) : Prop where
  pos : 0 < h.length
  few : h.length ≤ 5
  seg : ∀ s ∈ h, SegMade s
theorem sg_mem {h : List Seg} {i : Nat} (hi : i < h.length) : sg h i ∈ h := by simp [sg, hi]
theorem Annular.at {h : List Seg} (a : Annular h) {i : Nat} (hi : i < h.length) : SegMade (sg h i) := a.seg _ (sg_mem hi)
theorem long_le (f : Nat → Int) (M : Int) (n : Nat) (h : ∀ k, k < n → f k ≤ M) : sumFrom f 0 n ≤ n * M := by
  induction n with
  | zero => simp [sumFrom]
  | succ n ih =>
    rw [up_step]
    have := ih fun k hk => h k (by omega)
    have := h n (by omega)
    rw [show ((n + 1 : Nat) : Int) = (n : Int) + 1 by omega, Int.add_mul]
    omega
theorem Annular.good {h : List Seg} (a : Annular h) : GoodHole h := by
  refine ⟨a.pos, by have := a.few; omega, fun i hi => (a.at hi).good, ?_⟩
  have := long_le (longAt h) 100000 h.length fun k hk => (a.at hk).l1
  have := a.few
  show sumFrom (longAt h) 0 h.length ≤ _
  omega
theorem Annular.one_le {h : List Seg} (a : Annular h) : 1 ≤ sizeUp h h.length := by
  have := (a.good.ups h.length (Nat.le_refl _)).2.2.2.2.1
  have := a.pos
  omega
end Mpl
namespace Go.Proofs.Ytgcfplkfclapiaa
open Go.RowKit Go.Shelf Mpl

theorem Segs.own {w : World} {base : Nat} {e : TypeId} {v : Value} {n : Nat} {l : List Seg} (h : w.ownsRow base e 4 v n (l.flatMap segC)) :
    ∃ A c, v = .slice A l.length c ∧ l.length ≤ c ∧ Segs w w.heap.size A l := by
  have hn : n = l.length := by have := h.1; rw [flatC_len segC 4 (fun _ => rfl)] at this; omega
  subst hn
  obtain ⟨A, c, rfl, hnc, hc⟩ := own_form h
  refine ⟨A, c, rfl, hnc, fun h0 => ?_⟩
  obtain ⟨g, rfl, _, hlt, hcell⟩ := hc h0
  refine ⟨g, 0, rfl, hlt, fun i hi => ?_⟩
  have ht : sg l i = l[i] := by simp [sg, hi]
  have hg := fun j hj => flat_get segC 4 (fun _ => rfl) l i j hi hj
  rw [ht]
  refine ⟨?_, ?_, ?_, ?_⟩
  · have := hcell (i * 4 + 0) _ ((hg 0 (by omega)).trans rfl); simpa using this
  · have := hcell (i * 4 + 1) _ ((hg 1 (by omega)).trans rfl); simpa using this
  · have := hcell (i * 4 + 2) _ ((hg 2 (by omega)).trans rfl); simpa using this
  · have := hcell (i * 4 + 3) _ ((hg 3 (by omega)).trans rfl); simpa using this
theorem info_Seg : (Try.prog.info? 29).map (fun i => (i.zero, i.size, i.bytes)) = some (some (.agg #[.int .i64 0, .int .i64 0, .int .i64 0, .int .i64 0]), 4, 32) := by kernel_rfl

def madeSeg (n : Int) : Seg := ⟨1 + n % 100000, n / 11 % (1 + n % 100000 + 1), 1 + n / 3 % 1500, 1 + n / 7 % 200⟩
theorem madeSeg_made (n : Int) (_h : 0 ≤ n) : SegMade (madeSeg n) := by
  unfold madeSeg
  refine ⟨?_, ?_, ?_, ?_, ?_, ?_, ?_, ?_⟩ <;> simp only <;> try omega
  have h1 := Int.emod_nonneg (n / 11) (show 1 + n % 100000 + 1 ≠ 0 by omega)
  exact h1
  have h2 := Int.emod_lt_of_pos (n / 11) (show 0 < 1 + n % 100000 + 1 by omega)
  omega

theorem load_one {w : World} {g t : Nat} {v : Value} (b : Box w g t #[v]) : (loadVar 25 ⟨g, 0, none⟩).run Try.prog w = .ok (.agg #[v]) w := by
  have q0 := b.cell 0
  simp only [List.getElem?_toArray, List.getElem?_cons_zero] at q0
  simp [go_sem, q0]

set_option maxHeartbeats 4000000 in
set_option maxRecDepth 100000 in
theorem kit_Annulus (l : List Int) (A : Option Addr) (c : Nat) (w : World) (hl : Ints w w.heap.size A l) (hin : IntsIn l) (hm : l.length ≤ maxLen) :
    Calls Try.prog 18 #[.slice A l.length c] w fun e w' => (∃ A' c' h, e = .returned (.agg #[.slice A' h.length c']) ∧ w'.ownsRow w.heap.size 29 4 (.slice A' h.length c') h.length (h.flatMap segC) ∧ Annular h) ∧ Below w.heap.size w w' := by
  have HP := Lib.hid (fun W (hW : Below w.heap.size w W) k (hk : k ≤ 1000) => kit_pick l A c k W (hl.up hW hW.size) hin hk hm)
  have hb := Lib.hid (kitPick_bounds l)
  clear hl hin
  unfold maxLen at hm
  generalize kitPick l = f at *
  generalize l.length = n at *
  obtain ⟨i0, hi0, hz0, hz1, hz2⟩ := info_parts info_Seg
  obtain ⟨w0, hw0⟩ : ∃ w0, ((w.alloc (.cells #[.slice none 0 0] 25)).alloc (.cells #[.slice none 0 0] 25)) = w0 := ⟨_, rfl⟩
  have b0 : Box w0 w.heap.size 25 #[.slice none 0 0] := by rw [← hw0]; exact (Box.new w _ _ rfl).alloc _
  have b1 : Box w0 (w.heap.size + 1) 25 #[.slice none 0 0] := by rw [← hw0]; exact Box.new _ _ _ (by simp)
  have hB0 : Below w.heap.size w w0 := by rw [← hw0]; exact (by repeat (first | exact Below.refl _ _ | assumption | refine Below.setCell ?_ (by first | (simp; done) | (simp; omega)) _ | refine belowDrewN ?_ _ | refine Below.drew ?_ | refine Below.alloc ?_ (by first | (simp; done) | (simp; omega)) _))
  have hs0 : w0.heap.size = w.heap.size + 1 + 1 := by rw [← hw0]; simp
  have HS0 := Lib.hid hs0
  have HW0 := Lib.hid hw0
  clear hw0 hs0
  obtain ⟨mn, hmn⟩ : ∃ c : Nat, c = min n 5 := ⟨_, rfl⟩
  obtain ⟨cnt, hcnt⟩ : ∃ c : Nat, c = max 1 mn := ⟨_, rfl⟩
  have HE1 := Lib.hid (show (if (5 : Int) < (n : Int) then (5 : Int) else (n : Int)) = (mn : Int) by split <;> omega)
  have HE2 := Lib.hid (show (if (1 : Int) < (mn : Int) then (mn : Int) else (1 : Int)) = (cnt : Int) by split <;> omega)
  have hc1 : 1 ≤ cnt := by omega
  have hc3 : cnt ≤ 5 := by omega
  clear hcnt hmn
  go_enter Try.func18, Try.ntmps18
  go_wp2_with fail
  rw [HW0.out]
  go_loopw [4] (fun s4 wr => ∃ (k : Nat) (ks : List Seg) (v : Value), k ≤ cnt ∧ s4 = .int .i64 k ∧ Hid (ks.length = k ∧ ∀ s ∈ ks, SegMade s) ∧ Hid (wr.ownsRow w0.heap.size 29 4 v k (ks.flatMap segC)) ∧ Hid (Box wr (w.heap.size + 1) 25 #[v] ∧ Box wr w.heap.size 25 #[.slice none 0 0]) ∧ Hid (Below w.heap.size w wr) ∧ Hid (w0.heap.size ≤ wr.heap.size)) (fun s4 _ => 6 - (intOf s4).toNat)
  case atStart => exact ⟨0, [], .slice none 0 0, Nat.zero_le _, rfl, ⟨rfl, fun s hs => absurd hs (by simp)⟩, World.ownsRow_nil _ _ _ _, ⟨b1, b0⟩, hB0, Nat.le_refl _⟩
  case round =>
    obtain ⟨k, ks, v, hk, rfl, hks, hown, hbx, BW, hsz⟩ := hrel
    have e1 := HE1.out
    have e2 := HE2.out
    by_cases hlt : k < cnt
    · obtain ⟨r1, r2⟩ := hb.out k
      have g0 := hbx.out.1.cell 0
      have g1 := hbx.out.1.frozen 0
      simp only [List.getElem?_toArray, List.getElem?_cons_zero] at g0
      have hblt := hbx.out.1.lt
      go_wp2_with fail
      refine (HP.out wr BW.out k (by omega)).mono ?_
      rintro e w' ⟨rfl, rfl⟩
      generalize f k = nn at *
      have y1 : IntKind.i64.wrap (nn.tmod 100000) = nn % 100000 := by rw [Int.tmod_eq_emod_of_nonneg r1]; exact IntWalk.i64_in _ (by omega)
      have hmade := madeSeg_made nn r1
      have d0 : 0 ≤ nn % 100000 := by omega
      have d1 : nn % 100000 < 100000 := by omega
      have hz9 : (1 + nn % 100000 + 1 == 0) = false := beq_eq_false_iff_ne.2 (by omega)
      have HMD := Lib.hid hmade
      have hv := Lib.hid (show segC (madeSeg nn) = [.int .i64 (1 + nn % 100000), .int .i64 (nn / 11 % (1 + nn % 100000 + 1)), .int .i64 (1 + nn / 3 % 1500), .int .i64 (1 + nn / 7 % 200)] from rfl)
      go_wp2_with (at_builtin; refine wpList_append_own _ rfl _ _ 23 rfl w0.heap.size 29 i0 (.agg #[.int .i64 0, .int .i64 0, .int .i64 0, .int .i64 0]) 4 32 Try.underlying23 hi0 hz0 hz1 hz2 rfl (by decide) v k (ks.flatMap segC) rfl ((hown.out.alloc _).alloc _) ⟨wr.heap.size + 1, 0, none⟩ 1 1 (segC (madeSeg nn)) rfl rfl ?_ ?_ ?_ ?_ ?_ ?_)
      · rw [hv.out]
        have := cells_new (wr.alloc (.cells #[.int .i64 (1 + nn % 100000), .int .i64 (nn / 11 % (1 + nn % 100000 + 1)), .int .i64 (1 + nn / 3 % 1500), .int .i64 (1 + nn / 7 % 200)] 29)) [.int .i64 (1 + nn % 100000), .int .i64 (nn / 11 % (1 + nn % 100000 + 1)), .int .i64 (1 + nn / 3 % 1500), .int .i64 (1 + nn / 7 % 200)] 29
        simpa using this
      · simp [segC, Value.oneCell']
      · unfold maxLen; omega
      · omega
      · have := hsz.out; simp; omega
      intro v' w1 hown1 hg1 _
      have hB1 := Lib.hid (below_grown (((Below.refl w0.heap.size wr).alloc hsz.out _).alloc (by have := hsz.out; simp; omega) _) ((hown.out.alloc _).alloc _) hg1 (by have := hsz.out; simp; omega))
      obtain ⟨A2, c2, rfl, _, _⟩ := own_form hown1
      have HO1 := Lib.hid hown1
      clear hown1 hg1 g0 g1
      have c1 := hbx.out.1.below hB1.out (by rw [HS0.out]; omega)
      have c0 := hbx.out.2.below hB1.out (by rw [HS0.out]; omega)
      have BW1 := BW.out.trans (hB1.out.mono hB0.size)
      have HC1 := Lib.hid c1
      have HC0 := Lib.hid c0
      have g0 := c1.cell 0
      have g1 := c1.frozen 0
      simp only [List.getElem?_toArray, List.getElem?_cons_zero] at g0
      clear c1 c0
      go_wp2_with fail
      go_roundw
      case rel =>
        refine ⟨k + 1, ks ++ [madeSeg nn], .slice A2 (k + 1) c2, hlt, by go_num, ⟨by rw [List.length_append, hks.out.1]; rfl, fun s hs => ?_⟩, ?_, ⟨?_, ?_⟩, ?_, ?_⟩
        · rcases List.mem_append.1 hs with hs | hs
          · exact hks.out.2 s hs
          · rw [List.mem_singleton.1 hs]; exact HMD.out
        · have := own_far (p := ⟨w.heap.size + 1, 0, none⟩) HO1.out (by rw [HS0.out]; simp) (.slice A2 (k + 1) c2)
          unfold Hid
          rw [List.flatMap_append]
          simpa using this
        · have := HC1.out.set_ 0 (.slice A2 (k + 1) c2)
          simpa using this
        · exact HC0.out.far (by simp) _
        · exact BW1.setCell (p := ⟨w.heap.size + 1, 0, none⟩) (by simp) _
        · have h1 := hB1.out.size
          have h2 := hsz.out
          simp [Hid]
          omega
      case measure => simp [intOf]; omega
    · obtain rfl : k = cnt := by omega
      have hkn := own_far (p := ⟨w.heap.size, 0, none⟩) hown.out (by rw [HS0.out]; simp; omega) v
      rw [← hks.out.1] at hkn
      obtain ⟨A', c', rfl, _, _⟩ := own_form hkn
      have HKN := Lib.hid hkn
      clear hkn
      have g0 := hbx.out.1.cell 0
      have g2 := hbx.out.2.cell 0
      have g3 := hbx.out.2.frozen 0
      simp only [List.getElem?_toArray, List.getElem?_cons_zero] at g0 g2
      go_wp2_with fail
      have e0 := hbx.out.2.set_ 0 (.slice A' ks.length c')
      refine bodyPost_ret (results_cell1 rfl _ _ _ w.heap.size (.agg #[.slice A' ks.length c']) rfl (load_one (t := 25) (by simpa using e0))) rfl ?_
      refine ⟨⟨A', c', ks, rfl, ?_, ⟨by rw [hks.out.1]; omega, by rw [hks.out.1]; omega, hks.out.2⟩⟩, BW.out.setCell (p := ⟨w.heap.size, 0, none⟩) (Nat.le_refl _) _⟩
      exact own_le HKN.out (by rw [HS0.out]; omega)

end Go.Proofs.Ytgcfplkfclapiaa

/- Walks of the reference of layer 3: holes. -/
namespace Mpl
/-- the sum of lengths, each capped -/
def capUp (l : List Seg) (k : Nat) : Int := sumFrom (fun i => min (longAt l i) 1048577) 0 k
theorem capUp_step (l : List Seg) (k : Nat) : capUp l (k + 1) = capUp l k + min (sg l k).Long 1048577 := up_step _ k
theorem capUp_spec (l : List Seg) (k : Nat) (h : ∀ i, i < k → GoodSeg (sg l i)) : 0 ≤ capUp l k ∧ capUp l k ≤ k * 1048577 ∧ (capUp l k = longUp l k ∨ 1048577 ≤ capUp l k) ∧ capUp l k ≤ longUp l k := by
  induction k with
  | zero => simp [capUp, longUp, sumFrom]
  | succ k ih =>
    have i := ih fun i hi => h i (by omega)
    have g := (h k (by omega)).long
    rw [capUp_step, longUp_step]
    omega
end Mpl
namespace Go.Proofs.Ytgcfplkfclapiaa
open Go.RowKit Go.Shelf Mpl

theorem hole_box {w : World} {g t : Nat} {v : Value} (h : Box w g t #[v]) : w.cell? ⟨g, 0, none⟩ = some v := h.cell 0

set_option maxHeartbeats 4000000 in
set_option maxRecDepth 100000 in
theorem refHole_loop (l : List Seg) (b off c : Nat) (w : World) (hb : b < w.heap.size) (hc : ∀ i, i < l.length → w.cell? ⟨b, off + i * 4, none⟩ = some (.int .i64 (sg l i).Long) ∧ w.cell? ⟨b, off + i * 4 + 1, none⟩ = some (.int .i64 (sg l i).Rise) ∧
      w.cell? ⟨b, off + i * 4 + 2, none⟩ = some (.int .i64 (sg l i).Area) ∧ w.cell? ⟨b, off + i * 4 + 3, none⟩ = some (.int .i64 (sg l i).Gap)) (h0 : 0 < l.length) (h16 : l.length ≤ 16) :
    Calls Try.prog 28 #[.agg #[.slice (some ⟨b, off, none⟩) l.length c]] w fun e w' => e = .returned (.int .i64 (checkHole l)) ∧ Below w.heap.size w w' := by
  have HC := Lib.hid hc
  have hany : (∃ i, i < l.length ∧ ¬ GoodSeg (sg l i)) → checkHole l = 2 := fun ⟨i, hi, hf⟩ => by
    unfold checkHole
    rw [if_neg (by omega), if_neg (by omega), if_pos]
    rw [List.any_eq_true]
    refine ⟨l[i], List.getElem_mem hi, ?_⟩
    have : sg l i = l[i] := by simp [sg, hi]
    rw [this, ← fairSeg_iff] at hf
    simpa using hf
  have hall : (∀ i, i < l.length → GoodSeg (sg l i)) → checkHole l = if 1048576 < capUp l l.length then 5 else 0 := fun hg => by
    have hs := capUp_spec l l.length hg
    unfold checkHole
    rw [if_neg (by omega), if_neg (by omega), if_neg (by rw [(any_seg l).2 hg]; simp)]
    by_cases h : 1048576 < longUp l l.length
    · rw [if_pos h, if_pos (by omega)]
    · rw [if_neg h, if_neg (by omega)]
  have HANY := Lib.hid hany
  have HALL := Lib.hid hall
  clear hc hany hall
  generalize hn : l.length = n at *
  have HN := Lib.hid hn
  clear hn
  generalize hres : checkHole l = res at *
  clear hres
  have hz : ((n : Int) == 0) = false := beq_eq_false_iff_ne.2 (by omega)
  have hz2 : decide ((16 : Int) < (n : Int)) = false := decide_eq_false (by omega)
  have hz2' : decide (16 < n) = false := decide_eq_false (by omega)
  have hB0 : Below w.heap.size w (w.alloc (.cells #[.slice (some ⟨b, off, none⟩) n c] 25)) := (by repeat (first | exact Below.refl _ _ | assumption | refine Below.setCell ?_ (by first | (simp; done) | (simp; omega)) _ | refine belowDrewN ?_ _ | refine Below.drew ?_ | refine Below.alloc ?_ (by first | (simp; done) | (simp; omega)) _))
  have b0 : Box (w.alloc (.cells #[.slice (some ⟨b, off, none⟩) n c] 25)) w.heap.size 25 #[.slice (some ⟨b, off, none⟩) n c] := Box.new _ _ _ rfl
  have HB0 := Lib.hid hB0
  have BX0 := Lib.hid b0
  clear hB0 b0
  go_enter Try.func28, Try.ntmps28
  go_wp2_with fail
  go_loopw [3, 4] (fun s3 s4 wr => ∃ (k : Nat), k ≤ n ∧ s4 = .int .i64 k ∧ s3 = .int .i64 (capUp l k) ∧ Hid (∀ i, i < k → GoodSeg (sg l i)) ∧ Hid (Box wr w.heap.size 25 #[.slice (some ⟨b, off, none⟩) n c]) ∧ Hid (Below w.heap.size w wr)) (fun _ s4 _ => n - (intOf s4).toNat)
  case atStart => exact ⟨0, Nat.zero_le _, rfl, rfl, fun i hi => absurd hi (by omega), BX0, HB0⟩
  case round =>
    obtain ⟨k, hk, rfl, rfl, hf, BX, BW⟩ := hrel
    have hsz := BW.out.size
    have q0 := hole_box BX.out
    by_cases hlt : k < n
    · obtain ⟨c0, c1, c2, c3⟩ := HC.out k hlt
      have t0 : decide (k < n) = true := decide_eq_true hlt
      have d0 := oldCell BW.out hb c0
      have d1 := oldCell BW.out hb c1
      have d2 := oldCell BW.out hb c2
      have d3 := oldCell BW.out hb c3
      have hbw : b < wr.heap.size := by omega
      clear c0 c1 c2 c3
      have hst := Lib.hid (capUp_step l k)
      have hcs := capUp_spec l k hf.out
      obtain ⟨s0, s1, _, _⟩ := hcs
      have hone := Lib.hid (show ¬ GoodSeg (sg l k) → res = 2 from fun h => HANY.out ⟨k, hlt, h⟩)
      have hx : Hid (GoodSeg (sg l k) → (∀ i, i < k + 1 → GoodSeg (sg l i))) := fun h i hi => by
        by_cases e : i = k
        · rw [e]; exact h
        · exact hf.out i (by omega)
      generalize hSk : capUp l k = S at *
      generalize hS1 : capUp l (k + 1) = S1 at *
      have HS1 := Lib.hid hS1
      clear hSk hS1
      generalize sg l k = s at *
      have BA := Lib.hid (BW.out.alloc hsz (.cells #[.int .i64 s.Long, .int .i64 s.Rise, .int .i64 s.Area, .int .i64 s.Gap] 29))
      by_cases g1 : s.Long < 1
      · have e1 : decide (s.Long < 1) = true := decide_eq_true g1
        have hr := Lib.hid (hone.out fun h => by have := h.long; omega)
        go_wp2_with fail
        go_ret
        exact ⟨ret_int hr.out.symm, BA.out⟩
      have e1 : decide (s.Long < 1) = false := decide_eq_false g1
      by_cases g2 : s.Rise < 0
      · have e2 : decide (s.Rise < 0) = true := decide_eq_true g2
        have hr := Lib.hid (hone.out fun h => by have := h.rise0; omega)
        go_wp2_with fail
        go_ret
        exact ⟨ret_int hr.out.symm, BA.out⟩
      have e2 : decide (s.Rise < 0) = false := decide_eq_false g2
      by_cases g3 : s.Long < s.Rise
      · have e3 : decide (s.Long < s.Rise) = true := decide_eq_true g3
        have hr := Lib.hid (hone.out fun h => by have := h.rise1; omega)
        go_wp2_with fail
        go_ret
        exact ⟨ret_int hr.out.symm, BA.out⟩
      have e3 : decide (s.Long < s.Rise) = false := decide_eq_false g3
      by_cases g4 : s.Area < 1
      · have e4 : decide (s.Area < 1) = true := decide_eq_true g4
        have hr := Lib.hid (hone.out fun h => by have := h.area0; omega)
        go_wp2_with fail
        go_ret
        exact ⟨ret_int hr.out.symm, BA.out⟩
      have e4 : decide (s.Area < 1) = false := decide_eq_false g4
      by_cases g5 : 5000 < s.Area
      · have e5 : decide (5000 < s.Area) = true := decide_eq_true g5
        have hr := Lib.hid (hone.out fun h => by have := h.area1; omega)
        go_wp2_with fail
        go_ret
        exact ⟨ret_int hr.out.symm, BA.out⟩
      have e5 : decide (5000 < s.Area) = false := decide_eq_false g5
      by_cases g6 : s.Gap < 1
      · have e6 : decide (s.Gap < 1) = true := decide_eq_true g6
        have hr := Lib.hid (hone.out fun h => by have := h.gap0; omega)
        go_wp2_with fail
        go_ret
        exact ⟨ret_int hr.out.symm, BA.out⟩
      have e6 : decide (s.Gap < 1) = false := decide_eq_false g6
      by_cases g7 : 200 < s.Gap
      · have e7 : decide (200 < s.Gap) = true := decide_eq_true g7
        have hr := Lib.hid (hone.out fun h => by have := h.gap1; omega)
        go_wp2_with fail
        go_ret
        exact ⟨ret_int hr.out.symm, BA.out⟩
      have e7 : decide (200 < s.Gap) = false := decide_eq_false g7
      have HX := Lib.hid (hx.out ⟨by omega, by omega, by omega, by omega, by omega, by omega, by omega⟩)
      obtain ⟨m, hm⟩ : ∃ m, (if (1048577 : Int) < s.Long then (1048577 : Int) else s.Long) = m := ⟨_, rfl⟩
      have hm1 : m = min s.Long 1048577 := by rw [← hm]; split <;> omega
      have HST := Lib.hid (show S1 = S + m by rw [hst.out, hm1])
      have hm0 : 0 ≤ m ∧ m ≤ 1048577 := by omega
      obtain ⟨m0, m1⟩ := hm0
      have BX1 := Lib.hid (BX.out.alloc (.cells #[.int .i64 s.Long, .int .i64 s.Rise, .int .i64 s.Area, .int .i64 s.Gap] 29))
      clear hone hx hst hm1
      go_wp2_with fail
      go_roundw
      case rel => exact ⟨k + 1, hlt, by go_num, by rw [HS1.out, HST.out], HX, BX1, BA⟩
      case measure => simp [intOf]; omega
    · obtain rfl : k = n := by omega
      have hr := Lib.hid (HALL.out hf.out)
      have t0 : decide (k < k) = false := decide_eq_false hlt
      by_cases hl : 1048576 < capUp l k
      · rw [if_pos hl] at hr
        have e1 : decide (1048576 < capUp l k) = true := decide_eq_true hl
        go_wp2_with fail
        go_ret
        exact ⟨ret_int hr.out.symm, BW.out⟩
      · rw [if_neg hl] at hr
        have e1 : decide (1048576 < capUp l k) = false := decide_eq_false hl
        go_wp2_with fail
        go_ret
        exact ⟨ret_int hr.out.symm, BW.out⟩

set_option maxHeartbeats 1000000 in
theorem ref03_CheckHole (v0 : Value) (l : List Seg) (w : World) (hv : HoleV w w.heap.size v0 l) :
    Calls Try.prog 28 #[v0] w fun e w' => e = .returned (.int .i64 (checkHole l)) ∧ Below w.heap.size w w' := by
  obtain ⟨A, c, rfl, hk⟩ := hv
  by_cases h0 : l.length = 0
  · have hs : Hid (checkHole l = 6) := by simp [checkHole, h0, Hid]
    rw [h0]
    have hz : (((0 : Nat) : Int) == 0) = true := by simp
    clear h0 hk
    go_enter Try.func28, Try.ntmps28
    go_wp2_with fail
    go_ret
    exact ⟨ret_int hs.out.symm, (by repeat (first | exact Below.refl _ _ | assumption | refine Below.setCell ?_ (by first | (simp; done) | (simp; omega)) _ | refine belowDrewN ?_ _ | refine Below.drew ?_ | refine Below.alloc ?_ (by first | (simp; done) | (simp; omega)) _))⟩
  · by_cases h16 : 16 < l.length
    · have hs : Hid (checkHole l = 8) := by simp [checkHole, h0, h16, Hid]
      clear hk
      generalize l.length = n at *
      have hz : ((n : Int) == 0) = false := beq_eq_false_iff_ne.2 (by omega)
      have hz2 : decide ((16 : Int) < (n : Int)) = true := decide_eq_true (by omega)
      go_enter Try.func28, Try.ntmps28
      go_wp2_with fail
      go_ret
      exact ⟨ret_int hs.out.symm, (by repeat (first | exact Below.refl _ _ | assumption | refine Below.setCell ?_ (by first | (simp; done) | (simp; omega)) _ | refine belowDrewN ?_ _ | refine Below.drew ?_ | refine Below.alloc ?_ (by first | (simp; done) | (simp; omega)) _))⟩
    · obtain ⟨b, off, rfl, hb, hc⟩ := hk (by omega)
      exact refHole_loop l b off c w hb hc (by omega) (by omega)

set_option maxHeartbeats 4000000 in
set_option maxRecDepth 100000 in
theorem ref03_Volume (v0 : Value) (l : List Seg) (w : World) (hv : HoleV w w.heap.size v0 l) :
    Calls Try.prog 29 #[v0] w fun e w' => e = .returned (.int .i64 (volumeOf l)) ∧ Below w.heap.size w w' := by
  have hvv := hv
  obtain ⟨A, c, rfl, hS⟩ := hv
  have HA := hvv.alloc (.cells #[.slice A l.length c] 25)
  have HC := Lib.hid (ref03_CheckHole _ l _ HA)
  have hba : Below w.heap.size w (w.alloc (.cells #[.slice A l.length c] 25)) := (Below.refl _ _).alloc (Nat.le_refl _) _
  have b0 : Box (w.alloc (.cells #[.slice A l.length c] 25)) w.heap.size 25 #[.slice A l.length c] := Box.new _ _ _ rfl
  have HB := Lib.hid b0
  have HBA := Lib.hid hba
  have hd : Hid (volumeOf l = if checkHole l = 0 then sizeUp l l.length else 0) := rfl
  have hi := Lib.hid (checkHole_iff l)
  clear hvv HA hba b0
  by_cases h0 : checkHole l = 0
  · have hg := hi.out.1 h0
    have HG := Lib.hid hg
    obtain ⟨b, off, rfl, hb, hc⟩ := hS hg.pos
    have HCC := Lib.hid hc
    have hfew := hg.few
    rw [h0] at HC
    rw [if_pos h0] at hd
    clear h0 hS hc hg hi
    generalize hn : l.length = n at *
    have HN := Lib.hid hn
    clear hn
    generalize volumeOf l = res at *
    go_enter Try.func29, Try.ntmps29
    go_wp2_with fail
    refine HC.out.mono ?_
    rintro e w1 ⟨rfl, hb1⟩
    have BX1 := Lib.hid (HB.out.under hb1)
    have HB1 := Lib.hid (HBA.out.trans (hb1.mono HBA.out.size))
    clear hb1
    go_wp2_with fail
    go_loopw [3, 4] (fun s3 s4 wr => ∃ (k : Nat), k ≤ n ∧ s4 = .int .i64 k ∧ s3 = .int .i64 (sizeUp l k) ∧ Hid (Box wr w.heap.size 25 #[.slice (some ⟨b, off, none⟩) n c]) ∧ Hid (Below w.heap.size w wr)) (fun _ s4 _ => n - (intOf s4).toNat)
    case atStart => exact ⟨0, Nat.zero_le _, rfl, rfl, BX1, HB1⟩
    case round =>
      obtain ⟨k, hk, rfl, rfl, BX, BW⟩ := hrel
      have hsz := BW.out.size
      have q0 := hole_box BX.out
      by_cases hlt : k < n
      · obtain ⟨c0, c1, c2, c3⟩ := HCC.out k hlt
        have t0 : decide (k < n) = true := decide_eq_true hlt
        have d0 := oldCell BW.out hb c0
        have d2 := oldCell BW.out hb c2
        have hbw : b < wr.heap.size := by omega
        have hst := Lib.hid (sizeUp_step l k)
        have hu := HG.out.ups k (by rw [HN.out]; omega)
        obtain ⟨_, _, _, _, u5, u6⟩ := hu
        have hs2 := HG.out.seg (k := k) (by rw [HN.out]; exact hlt)
        obtain ⟨_, z1, z2⟩ := hs2
        have hse : Hid (segSize (sg l k) = (sg l k).Long * (sg l k).Area) := rfl
        clear c0 c1 c2 c3
        generalize hSk : sizeUp l k = S at *
        generalize hS1 : sizeUp l (k + 1) = S1 at *
        have HS1 := Lib.hid hS1
        clear hSk hS1
        generalize segSize (sg l k) = z at *
        generalize sg l k = s at *
        have hw1 : IntKind.i64.wrap (s.Long * s.Area) = z := by rw [← hse.out]; exact IntWalk.i64_in _ (by omega)
        have hw2 : IntKind.i64.wrap (S + z) = S + z := IntWalk.i64_in _ (by omega)
        have b1 : (k : Int) < (n : Int) := by omega
        have b2 : (0 : Int) ≤ (k : Int) := by omega
        go_wp2_with fail
        go_quiet (fail)
        go_wp2_with fail
        go_roundw
        case rel => exact ⟨k + 1, hlt, by go_num, by rw [HS1.out, hst.out], BX.out.drewN _, belowDrewN BW.out _⟩
        case measure => simp [intOf]; omega
      · obtain rfl : k = n := by omega
        have t0 : decide (k < k) = false := decide_eq_false hlt
        go_wp2_with fail
        go_ret
        exact ⟨ret_int hd.out.symm, BW.out⟩
  · rw [if_neg h0] at hd
    have hz : (checkHole l != 0) = true := by simpa using h0
    clear h0 hS
    generalize checkHole l = ch at *
    generalize l.length = n at *
    go_enter Try.func29, Try.ntmps29
    go_wp2_with fail
    refine HC.out.mono ?_
    rintro e w1 ⟨rfl, hb1⟩
    go_wp2_with fail
    go_ret
    exact ⟨ret_int hd.out.symm, HBA.out.trans (hb1.mono HBA.out.size)⟩

end Go.Proofs.Ytgcfplkfclapiaa

/- Walks of the package fluid: whether a place is in a hole, and in which segment. -/
namespace Mpl
theorem passed_stop (l : List Seg) (u : Int) (k m : Nat) (h : u < sizeUp l k) : passed l u k m = k := by
  cases m with
  | zero => rfl
  | succ m => rw [passed, if_pos h]
theorem passed_go (l : List Seg) (u : Int) (k m : Nat) (h : ¬ u < sizeUp l k) : passed l u k (m + 1) = passed l u (k + 1) m := by rw [passed, if_neg h]
end Mpl
namespace Go.Proofs.Ytgcfplkfclapiaa
open Go.RowKit Go.Shelf Mpl
attribute [local go_sem] Oper.semAt_some

set_option maxHeartbeats 4000000 in
set_option maxRecDepth 100000 in
theorem fluid_Where (v0 : Value) (l : List Seg) (u : Int) (w : World) (hv : HoleV w w.heap.size v0 l) (hin : SegsIn l) (hm : l.length ≤ maxLen) :
    Calls Try.prog 33 #[v0, .int .i64 u] w fun e w' => e = .returned (.int .i64 (whereOf l u)) ∧ Below w.heap.size w w' := by
  have hvv := hv
  obtain ⟨A, c, rfl, hS⟩ := hv
  obtain ⟨w0, hw0⟩ : ∃ w0, (w.alloc (.cells #[.slice A l.length c] 25)).alloc (.cells #[.int .i64 u] 2) = w0 := ⟨_, rfl⟩
  have hB0 : Below w.heap.size w w0 := by rw [← hw0]; exact (by repeat (first | exact Below.refl _ _ | assumption | refine Below.setCell ?_ (by first | (simp; done) | (simp; omega)) _ | refine belowDrewN ?_ _ | refine Below.drew ?_ | refine Below.alloc ?_ (by first | (simp; done) | (simp; omega)) _))
  have b0 : Box w0 w.heap.size 25 #[.slice A l.length c] := by rw [← hw0]; exact (Box.new w _ _ rfl).alloc _
  have b1 : Box w0 (w.heap.size + 1) 2 #[.int .i64 u] := by rw [← hw0]; exact Box.new _ _ _ (by simp)
  have HI := Lib.hid (fluid_in _ l u w0 (hvv.below hB0) hin hm)
  have hd : Hid (whereOf l u = if inHole l u then (passed l u 0 l.length : Int) - 1 else -1) := rfl
  have hgood : inHole l u = true → GoodHole l := fun h => (checkHole_iff l).1 (by
    unfold inHole at h
    simp at h
    exact h.1)
  have HW0 := Lib.hid hw0
  clear hw0
  have HB0 := Lib.hid hB0
  have B0 := Lib.hid b0
  have B1 := Lib.hid b1
  clear hvv b0 b1
  cases hh : inHole l u
  · have hs : Hid (whereOf l u = -1) := by unfold Hid; rw [hd.out, hh]; rfl
    rw [hh] at HI
    clear hS hd hgood hh hin hB0
    generalize whereOf l u = res at *
    generalize l.length = n at *
    have q1 := B1.out.cell 0
    have q0 := B0.out.cell 0
    simp only [List.getElem?_toArray, List.getElem?_cons_zero] at q0 q1
    go_enter Try.func33, Try.ntmps33
    go_wp2_with fail
    rw [HW0.out]
    go_wp2_with fail
    refine HI.out.mono ?_
    rintro e w1 ⟨rfl, hb1⟩
    go_wp2_with fail
    go_ret
    exact ⟨ret_int hs.out.symm, HB0.out.trans (hb1.mono HB0.out.size)⟩
  have HG := Lib.hid (hgood hh)
  have hfew := HG.out.few
  have hs : Hid (whereOf l u = (passed l u 0 l.length : Int) - 1) := by unfold Hid; rw [hd.out, hh]; rfl
  rw [hh] at HI
  have HS := Lib.hid (hS.up hB0 (Nat.le_refl _))
  clear hS hd hgood hh hin hB0
  generalize whereOf l u = res at *
  generalize hP : passed l u 0 l.length = P at *
  have HP := Lib.hid hP
  clear hP
  have hfs : Fence.wide.fn 71 := trivial
  have hfi : Fence.wide.fn 73 := trivial
  generalize hn : l.length = n at *
  have HN := Lib.hid hn
  clear hn
  have q1 := B1.out.cell 0
  have q0 := B0.out.cell 0
  simp only [List.getElem?_toArray, List.getElem?_cons_zero] at q0 q1
  refine (callsIn_wide (n := 10)).1 ?_
  refine callsIn_of_wp_marks Try.func33 rfl trivial ?_ rfl
  simp only [Try.ntmps33, List.size_toArray, List.length_cons, List.length_nil, Nat.reduceAdd, Nat.reduceSub, Array.replicate_succ, Array.replicate_zero, List.push_toArray, List.append_toArray, List.nil_append, List.cons_append]
  gi_wp2_with fail
  rw [HW0.out]
  gi_wp2_with fail
  refine (callsIn_wide.2 HI.out).mono ?_
  rintro e w1 ⟨rfl, hb1⟩
  obtain ⟨w3, hw3⟩ : ∃ w3, (w1.alloc (.cells #[.int .i64 (-1)] 3)).alloc (.cells #[.slice A n c] 25) = w3 := ⟨_, rfl⟩
  have bo : Box w3 w1.heap.size 3 #[.int .i64 (-1)] := by rw [← hw3]; exact (Box.new _ _ _ rfl).alloc _
  have bh : Box w3 (w1.heap.size + 1) 25 #[.slice A n c] := by rw [← hw3]; exact Box.new _ _ _ (by simp)
  have b13 : Below w1.heap.size w1 w3 := by rw [← hw3]; exact ((Below.refl _ _).alloc (Nat.le_refl _) _).alloc (by simp) _
  have hs3 : w3.heap.size = w1.heap.size + 1 + 1 := by rw [← hw3]; simp
  have HW3 := Lib.hid hw3
  have HS3 := Lib.hid hs3
  have B01 := Lib.hid (B0.out.under hb1)
  have B11 := Lib.hid (B1.out.under hb1)
  have B03 := Lib.hid (B01.out.under b13)
  have B13 := Lib.hid (B11.out.under b13)
  have HB1 := Lib.hid (HB0.out.trans (hb1.mono HB0.out.size))
  have HB3 := Lib.hid (HB1.out.trans (b13.mono HB1.out.size))
  have hlt1 : w.heap.size + 1 < w1.heap.size := B11.out.lt
  have hlt0 : w.heap.size < w1.heap.size := B01.out.lt
  have HSR := Lib.hid (HS.out.up (hb1.mono HB0.out.size) (Nat.le_refl _))
  clear hw3 hs3 q0 q1
  have q0 := B01.out.cell 0
  have q1 := B11.out.cell 0
  simp only [List.getElem?_toArray, List.getElem?_cons_zero] at q0 q1
  gi_wp2_with fail
  refine (callsIn_wide.2 (fluid_places _ _)).mono ?_
  rintro e w' ⟨rfl, rfl⟩
  rw [HW3.out]
  gi_wp2_with fail
  have hfs1 : Fence.wide.fn 94 := trivial
  refine range_idx2 rfl (by omega) (gf := 94) (lb := #[.pointer (some ⟨w1.heap.size + 1, 0, none⟩)]) rfl trivial enters_places1
    (places_iter 9 (w1.heap.size + 1) w.heap.size A c l HG.out (by omega)) (fun _ => rfl)
    ?rd ?rdc
    (fun k W => Box W w1.heap.size 3 #[.int .i64 ((k : Int) - 1)] ∧ Box W (w.heap.size + 1) 2 #[.int .i64 u] ∧ Below w.heap.size w W ∧ passed l u k (n - k) = P)
    (fun c k W => c = .exit 0 ∧ Box W w1.heap.size 3 #[.int .i64 ((k : Int) - 1)] ∧ Below w.heap.size w W ∧ k = P) ?ic ?ixc ?i0
    (fun k a' W => a' = { tmps := #[.agg #[.slice A n c], .int .i64 u, .pointer (some ⟨w.heap.size, 0, none⟩), .pointer (some ⟨w.heap.size + 1, 0, none⟩), .int .i64 0, .pointer (some ⟨w1.heap.size, 0, none⟩), .int .i64 (sizeUp l k), .agg #[.slice A n c], .int .i64 u, .bool true, .bool false, .agg #[.slice A n c], .func (.func 94) #[] #[.pointer (some ⟨w1.heap.size + 1, 0, none⟩)], .int .i64 (sizeUp l k), segV (sg l k), undef, undef, undef, undef, undef, undef], defers := [] })
    ?axc ?assign ?body ?done ?stop
  case rd => exact ⟨by have := bh.cell 0; rw [HN.out]; exact this, HSR.out.up (b13.mono (by omega)) (Nat.le_refl _)⟩
  case rdc => exact fun W W' h hc => h.calm hc
  case ic => exact fun k W W' h hc => ⟨h.1.calm hc, h.2.1.calm hc, below_calm h.2.2.1 hc (by rw [HS3.out]; omega), h.2.2.2⟩
  case ixc => exact fun _ _ _ _ h hc => ⟨h.1, h.2.1.calm hc, below_calm h.2.2.1 hc (by rw [HS3.out]; omega), h.2.2.2⟩
  case i0 => exact ⟨bo, B13.out, HB3.out, by rw [← HN.out] at HP; simpa [HN.out] using HP.out⟩
  case axc => exact fun k a' W W' h _ => h
  case assign =>
    rintro L k W K hk hi hr hsz hK
    have HKK := Lib.hid hK
    clear hK hi hr
    simp only [segEnc, segV]
    gi_wp2_with fail
    exact HKK.out _ _ (Below.refl _ _) rfl
  case body =>
    rintro L k a' W0 W hk hi0 hlt0' hca ⟨c1, c2, hB, hps⟩ hr rfl hsz
    have hmix : Try.prog.follows .mixedOrders = true := by kernel_rfl
    have hkn : k < n := by rw [← HN.out]; exact hk
    have x0 := c1.cell 0
    have x1 := c2.cell 0
    have x2 := c1.frozen 0
    simp only [List.getElem?_toArray, List.getElem?_cons_zero] at x0 x1
    have C1 := Lib.hid c1
    have C2 := Lib.hid c2
    have HB := Lib.hid hB
    have HR := Lib.hid hr
    have HPS := Lib.hid hps
    have hfs' := HS3.out
    clear c1 c2 hB hr hps hi0 hca hk
    by_cases hgo : u < sizeUp l k
    · have t1 : decide (u < sizeUp l k) = true := decide_eq_true hgo
      have hkP : Hid (k = P) := by unfold Hid; rw [← HPS.out, passed_stop l u k _ hgo]
      generalize sizeUp l k = S at *
      gi_wp2_with fail
      exact ⟨keeps_below (Below.refl _ W), rfl, C1.out, HB.out, hkP.out⟩
    · have t1 : decide (u < sizeUp l k) = false := decide_eq_false hgo
      have hnx : Hid (passed l u (k + 1) (n - (k + 1)) = P) := by
        unfold Hid
        rw [← HPS.out, show n - k = (n - (k + 1)) + 1 by omega, passed_go l u k _ hgo]
      generalize sizeUp l k = S at *
      have hwr : IntKind.i64.wrap ((k : Int) - 1 + 1) = (((k + 1 : Nat) : Int) - 1) := by rw [IntWalk.i64_in _ (by omega)]; omega
      gi_wp2_with fail
      refine ⟨keeps_set W _ _, ⟨?_, C2.out.far (by simp; omega) _, HB.out.setCell (p := ⟨w1.heap.size, 0, none⟩) (by simp; omega) _, hnx.out⟩, HR.out.set_ (p := ⟨w1.heap.size, 0, none⟩) (by simp; omega) (by simp) _, (Mid.refl _ W).set (by rw [HS3.out] at hlt0'; simp; omega) _⟩
      have := C1.out.set_ 0 (.int .i64 (k : Int))
      rw [show (((k + 1 : Nat) : Int) - 1) = (k : Int) by omega]
      simpa using this
  case done =>
    rintro W ⟨c1, c2, hB, hps⟩ hK
    have x0 := c1.cell 0
    simp only [List.getElem?_toArray, List.getElem?_cons_zero] at x0
    gi_wp2_with fail
    refine ⟨by simp, .inl ⟨_, _, rfl, run_takeDeferred hK, ?_⟩⟩
    refine ⟨_, results_tmp rfl _ _ _, ?_, hB.trans (belowK_b (w := w) (Nat.le_refl _) W w3.heap.size _ _ (by rw [HS3.out]; omega) hK rfl rfl)⟩
    refine ret_int ?_
    rw [hs.out, ← hps, HN.out, Nat.sub_self]
    rfl
  case stop =>
    rintro c k W hk ⟨rfl, c1, hB, rfl⟩ hK
    have x0 := c1.cell 0
    simp only [List.getElem?_toArray, List.getElem?_cons_zero] at x0
    gi_wp2_with fail
    refine ⟨by simp, .inl ⟨_, _, rfl, run_takeDeferred hK, ?_⟩⟩
    refine ⟨_, results_tmp rfl _ _ _, ?_, hB.trans (belowK_b (w := w) (Nat.le_refl _) W w3.heap.size _ _ (by rw [HS3.out]; omega) hK rfl rfl)⟩
    exact ret_int hs.out.symm

end Go.Proofs.Ytgcfplkfclapiaa

/- Walks of the reference of layer 2: two lines alike. -/
namespace Mpl
instance : DecidableEq Knot := fun a b => decidable_of_iff (a.At = b.At ∧ a.V = b.V) (by cases a; cases b; simp)
theorem knot_step {x y : List Knot} {k : Nat} (hx : k < x.length) (hy : k < y.length) : (x.drop k = y.drop k) ↔ ((kn x k).At = (kn y k).At ∧ (kn x k).V = (kn y k).V ∧ x.drop (k + 1) = y.drop (k + 1)) := by
  have e1 : kn x k = x[k] := by simp [kn, hx]
  have e2 : kn y k = y[k] := by simp [kn, hy]
  rw [List.drop_eq_getElem_cons hx, List.drop_eq_getElem_cons hy, e1, e2, List.cons_eq_cons]
  have : ∀ a b : Knot, a = b ↔ a.At = b.At ∧ a.V = b.V := fun a b => by cases a; cases b; simp
  rw [this, and_assoc]
end Mpl
namespace Go.Proofs.Ytgcfplkfclapiaa
open Go.RowKit Go.Shelf Mpl

theorem run_neq_knot (x0 x1 y0 y1 : Int) (w : World) : (binOp .neq 73 (.agg #[.int .i64 x0, .int .i64 x1]) (.agg #[.int .i64 y0, .int .i64 y1])).run Try.prog w = .ok (.bool !(x0 == y0 && x1 == y1)) w := by
  have u3 := Try.underlying2
  have a3 := Try.isAgg2
  have z3 := Try.sizeOf2
  have hS : Try.prog.underlying 73 = some (.struct (Try.prog.fieldsOf 73)) := by kernel_rfl
  have hp : Try.prog.stoodInHeld 73 = false := by kernel_rfl
  rw [run_neq_struct, show (10000 : Nat) = 9999 + 1 from rfl, run_equalIn_agg w 9999 73 _ _ hS hp]
  simp only [Program.fieldsOf, Try.underlying73]
  go_simp
  by_cases h1 : x0 = y0 <;> by_cases h2 : x1 = y1 <;> simp [h1, h2]

set_option maxHeartbeats 4000000 in
theorem ref02_SameLine (x y : List Knot) (v0 v1 : Value) (w : World) (hx0 : LineV w w.heap.size v0 x) (hy0 : LineV w w.heap.size v1 y) (hnx : x.length ≤ 1000) (hny : y.length ≤ 1000) :
    Calls Try.prog 30 #[v0, v1] w fun e w' => e = .returned (.bool (decide (x = y))) ∧ Below w.heap.size w w' := by
  obtain ⟨A, c, rfl, hx⟩ := hx0
  obtain ⟨B, d, rfl, hy⟩ := hy0
  have HX := Lib.hid hx
  have HY := Lib.hid hy
  have hst := Lib.hid (fun k => knot_step (x := x) (y := y) (k := k))
  have hnq := run_neq_knot
  generalize hres : decide (x = y) = res
  have HR := Lib.hid hres
  clear hx hy hres
  generalize hn0 : x.length = n0 at *
  generalize hn1 : y.length = n1 at *
  have HN0 := Lib.hid hn0
  have HN1 := Lib.hid hn1
  clear hn0 hn1
  obtain ⟨w0, hw0⟩ : ∃ w0, (w.alloc (.cells #[.slice A n0 c] 67)).alloc (.cells #[.slice B n1 d] 67) = w0 := ⟨_, rfl⟩
  have BX0 := Lib.hid (show Box w0 w.heap.size 67 #[.slice A n0 c] by rw [← hw0]; exact (Box.new w _ _ rfl).alloc _)
  have BY0 := Lib.hid (show Box w0 (w.heap.size + 1) 67 #[.slice B n1 d] by rw [← hw0]; exact Box.new _ _ _ (by simp))
  have HB0 := Lib.hid (show Below w.heap.size w w0 by rw [← hw0]; exact (by repeat (first | exact Below.refl _ _ | assumption | refine Below.setCell ?_ (by first | (simp; done) | (simp; omega)) _ | refine belowDrewN ?_ _ | refine Below.drew ?_ | refine Below.alloc ?_ (by first | (simp; done) | (simp; omega)) _)))
  have HW0 := Lib.hid hw0
  clear hw0
  go_enter Try.func30, Try.ntmps30
  go_wp2_with fail
  rw [HW0.out]
  go_loopw [5] (fun s5 wr => ∃ k : Nat, k ≤ n0 ∧ k ≤ n1 ∧ s5 = .int .i64 k ∧ Hid (decide (x.drop k = y.drop k) = res) ∧ Hid (Below w0.heap.size w0 wr)) (fun s5 _ => n0 - (intOf s5).toNat)
  case atStart => exact ⟨0, Nat.zero_le _, Nat.zero_le _, rfl, HR, Below.refl _ _⟩
  case round =>
    obtain ⟨k, hk0, hk1, rfl, hr, BW0⟩ := hrel
    have BW := Lib.hid (HB0.out.trans (BW0.out.mono HB0.out.size))
    have x0 : wr.cell? ⟨w.heap.size, 0, none⟩ = some (.slice A n0 c) := (BX0.out.under BW0.out).cell 0
    have x1 : wr.cell? ⟨w.heap.size + 1, 0, none⟩ = some (.slice B n1 d) := (BY0.out.under BW0.out).cell 0
    have l0 := (BX0.out.under BW0.out).lt
    have l1 := (BY0.out.under BW0.out).lt
    by_cases h0 : k < n0
    · have t0 : decide (k < n0) = true := decide_eq_true h0
      by_cases h1 : k < n1
      · have t1 : decide (k < n1) = true := decide_eq_true h1
        have hs := Lib.hid (hst.out k h0 h1)
        obtain ⟨ab, ao, rfl, hab, hac⟩ := Knots.out HX.out (by rw [HN0.out]; omega)
        obtain ⟨bb, bo, rfl, hbb, hbc⟩ := Knots.out HY.out (by rw [HN1.out]; omega)
        obtain ⟨c0, c1⟩ : _ ∧ _ := hac k (by rw [HN0.out]; exact h0)
        obtain ⟨e0, e1⟩ := hbc k (by rw [HN1.out]; exact h1)
        replace c0 := oldCell BW.out hab c0
        replace c1 := oldCell BW.out hab c1
        replace e0 := oldCell BW.out hbb e0
        replace e1 := oldCell BW.out hbb e1
        have z1 : (k : Int) < (n0 : Int) := by omega
        have z2 : (k : Int) < (n1 : Int) := by omega
        have z3 : (0 : Int) ≤ (k : Int) := by omega
        clear hac hbc
        generalize (kn x k).At = a0 at *
        generalize (kn x k).V = a1 at *
        generalize (kn y k).At = b0 at *
        generalize (kn y k).V = b1 at *
        by_cases hq : a0 = b0 ∧ a1 = b1
        · have hq' : (!(a0 == b0 && a1 == b1)) = false := by simp [hq]
          have hn : Hid (decide (x.drop (k + 1) = y.drop (k + 1)) = res) := by unfold Hid; rw [← hr.out]; exact decide_eq_decide.2 ⟨fun h => hs.out.2 ⟨hq.1, hq.2, h⟩, fun h => (hs.out.1 h).2.2⟩
          clear hq
          go_wp2_with fail
          go_quiet (fail)
          go_wp2_with fail
          go_roundw
          case rel => exact ⟨k + 1, h0, h1, by go_num, hn, belowDrewN BW0.out _⟩
          case measure => simp [intOf]; omega
        · have hq' : (!(a0 == b0 && a1 == b1)) = true := by
            simp only [Bool.not_eq_true', Bool.and_eq_false_iff, beq_eq_false_iff_ne]
            omega
          have hf : Hid (false = res) := by unfold Hid; rw [← hr.out]; exact (decide_eq_false fun h => hq ⟨(hs.out.1 h).1, (hs.out.1 h).2.1⟩).symm
          clear hq
          go_wp2_with fail
          go_quiet (fail)
          go_wp2_with fail
          go_ret
          exact ⟨ret_bool hf.out, belowDrewN BW.out _⟩
      · obtain rfl : k = n1 := by omega
        have t1 : decide (k < k) = false := decide_eq_false h1
        have t2 : ((n0 : Int) == (k : Int)) = false := beq_eq_false_iff_ne.2 (by omega)
        have t2' : (n0 == k) = false := beq_eq_false_iff_ne.2 (by omega)
        have hf : Hid (false = res) := by
          unfold Hid; rw [← hr.out]
          refine (decide_eq_false fun h => ?_).symm
          have := congrArg List.length h
          simp [HN0.out, HN1.out] at this
          omega
        go_wp2_with fail
        go_ret
        exact ⟨ret_bool hf.out, BW.out⟩
    · obtain rfl : k = n0 := by omega
      have t0 : decide (k < k) = false := decide_eq_false h0
      by_cases h1 : k = n1
      · subst h1
        have hf : Hid (true = res) := by
          unfold Hid; rw [← hr.out, List.drop_eq_nil_of_le (by rw [HN0.out]; omega), List.drop_eq_nil_of_le (by rw [HN1.out]; omega)]; rfl
        go_wp2_with fail
        go_ret
        exact ⟨ret_bool hf.out, BW.out⟩
      · have t2 : ((k : Int) == (n1 : Int)) = false := beq_eq_false_iff_ne.2 (by omega)
        have t2' : (k == n1) = false := beq_eq_false_iff_ne.2 h1
        have hf : Hid (false = res) := by
          unfold Hid; rw [← hr.out]
          refine (decide_eq_false fun h => ?_).symm
          have := congrArg List.length h
          simp [HN0.out, HN1.out] at this
          omega
        go_wp2_with fail
        go_ret
        exact ⟨ret_bool hf.out, BW.out⟩


end Go.Proofs.Ytgcfplkfclapiaa

/- Walks of the package fluid: bubble points and cuttings. -/
namespace Go.Proofs.Ytgcfplkfclapiaa
open Go.RowKit Go.Shelf Mpl

theorem ret_ib {a b : Int} {c d : Bool} (h1 : a = b) (h2 : c = d) : Ending.returned (.tuple #[.int .i64 a, .bool c]) = .returned (.tuple #[.int .i64 b, .bool d]) := by rw [h1, h2]

set_option maxHeartbeats 1000000 in
theorem fluid_Bubble (g : Gas) (w : World) :
    Calls Try.prog 43 #[gasV g] w fun e w' => e = .returned (.tuple #[.int .i64 (bubble g).1, .bool (bubble g).2]) ∧ Below w.heap.size w w' := by
  have H := Lib.hid (fun w => fluid_gas g w)
  have HB := Lib.hid (gas_box g w)
  unfold gasV at *
  cases h1 : gasOk g
  · have hs : Hid (bubble g = (0, false)) := by simp [bubble, h1, Hid]
    rw [h1] at H
    clear HB
    go_enter Try.func43, Try.ntmps43
    go_wp2_with (go_at_call 85; refine (H.out _).mono ?_; rintro e w' ⟨rfl, hb⟩)
    go_ret2
    exact ⟨by rw [hs.out]; rfl, ((Below.refl _ w).alloc (Nat.le_refl _) _).trans (hb.mono (by simp))⟩
  have hg := (gasOk_iff g).1 h1
  obtain ⟨k0, k1, p0, p1⟩ := hg
  have hd : Hid (bubble g = if g.K = 0 then (1, true) else if g.Power = 0 then (0, false) else if 65536 < upDiv g.K g.Power then (0, false) else (upDiv g.K g.Power * 1048576, true)) := by simp [bubble, h1, Hid]
  rw [h1] at H
  clear h1
  rw [hd.out]
  generalize hK : g.K = K at *
  generalize hP : g.Power = P at *
  have hw0 : Below w.heap.size w (w.alloc (.cells #[.int .i64 K, .int .i64 P] 85)) := (by repeat (first | exact Below.refl _ _ | assumption | refine Below.setCell ?_ (by first | (simp; done) | (simp; omega)) _ | refine belowDrewN ?_ _ | refine Below.drew ?_ | refine Below.alloc ?_ (by first | (simp; done) | (simp; omega)) _))
  have HW := Lib.hid hw0
  clear hK hP hd hw0
  by_cases hk : K = 0
  · rw [if_pos hk]
    subst hk
    go_enter Try.func43, Try.ntmps43
    go_wp2_with fail
    refine (H.out _).mono ?_
    rintro e w1 ⟨rfl, hb⟩
    obtain ⟨q0, q1⟩ := gas_load (HB.out.under hb)
    go_wp2_with fail
    go_ret2
    exact ⟨rfl, HW.out.trans (hb.mono HW.out.size)⟩
  rw [if_neg hk]
  have hk0 : (K == 0) = false := beq_eq_false_iff_ne.2 hk
  by_cases hp : P = 0
  · rw [if_pos hp]
    subst hp
    clear hk
    go_enter Try.func43, Try.ntmps43
    go_wp2_with fail
    refine (H.out _).mono ?_
    rintro e w1 ⟨rfl, hb⟩
    obtain ⟨q0, q1⟩ := gas_load (HB.out.under hb)
    go_wp2_with fail
    go_ret2
    exact ⟨rfl, HW.out.trans (hb.mono HW.out.size)⟩
  rw [if_neg hp]
  have hp0 : (P == 0) = false := beq_eq_false_iff_ne.2 hp
  have HU := Lib.hid (fun w => fluid_up K P w (by omega) (by omega) (by omega) (by omega))
  have hun := upDiv_nonneg (a := K) (b := P) (by omega) (by omega)
  clear hk hp
  generalize upDiv K P = q at *
  by_cases hq : 65536 < q
  · rw [if_pos hq]
    have hd : decide (65536 < q) = true := decide_eq_true hq
    clear hq
    go_enter Try.func43, Try.ntmps43
    go_wp2_with fail
    refine (H.out _).mono ?_
    rintro e w1 ⟨rfl, hb⟩
    obtain ⟨q0, q1⟩ := gas_load (HB.out.under hb)
    go_wp2_with (go_at_call 82; refine (HU.out _).mono ?_; rintro e w' ⟨rfl, rfl⟩)
    go_ret2
    exact ⟨rfl, HW.out.trans (hb.mono HW.out.size)⟩
  · rw [if_neg hq]
    have hd : decide (65536 < q) = false := decide_eq_false hq
    have hq1 : q ≤ 65536 := by omega
    clear hq
    go_enter Try.func43, Try.ntmps43
    go_wp2_with fail
    refine (H.out _).mono ?_
    rintro e w1 ⟨rfl, hb⟩
    obtain ⟨q0, q1⟩ := gas_load (HB.out.under hb)
    go_wp2_with (go_at_call 82; refine (HU.out _).mono ?_; rintro e w' ⟨rfl, rfl⟩)
    go_ret2
    exact ⟨ret_ib (by omega) rfl, HW.out.trans (hb.mono HW.out.size)⟩

set_option maxHeartbeats 1000000 in
theorem fluid_Mixed (a r l : Int) (w : World) :
    Calls Try.prog 41 #[.int .i64 a, .int .i64 r, .int .i64 l] w fun e w' => e = .returned (.int .i64 (Mpl.mixed a r l)) ∧ w = w' := by
  cases h1 : within a 0 40000
  · have hs : Hid (Mpl.mixed a r l = 0) := by simp [Mpl.mixed, h1, Hid]
    go_enter Try.func41, Try.ntmps41
    go_wp2_with (go_at_call 62; refine (fluid_within _ _ _ _).mono ?_; rintro e w' ⟨rfl, rfl⟩)
    go_ret
    exact ⟨by rw [hs.out]; rfl, rfl⟩
  cases h2 : within r 0 40000
  · have hs : Hid (Mpl.mixed a r l = 0) := by simp [Mpl.mixed, h2, Hid]
    go_enter Try.func41, Try.ntmps41
    go_wp2_with (go_at_call 62; refine (fluid_within _ _ _ _).mono ?_; rintro e w' ⟨rfl, rfl⟩)
    go_ret
    exact ⟨by rw [hs.out]; rfl, rfl⟩
  cases h3 : within l 0 1000
  · have hs : Hid (Mpl.mixed a r l = 0) := by simp [Mpl.mixed, h3, Hid]
    go_enter Try.func41, Try.ntmps41
    go_wp2_with (go_at_call 62; refine (fluid_within _ _ _ _).mono ?_; rintro e w' ⟨rfl, rfl⟩)
    go_ret
    exact ⟨by rw [hs.out]; rfl, rfl⟩
  have hs : Hid (Mpl.mixed a r l = upDiv (a * (1000 - l) + r * l) 1000) := by simp [Mpl.mixed, h1, h2, h3, Hid]
  have b1 : 0 ≤ a ∧ a ≤ 40000 := by simpa [within] using h1
  have b2 : 0 ≤ r ∧ r ≤ 40000 := by simpa [within] using h2
  have b3 : 0 ≤ l ∧ l ≤ 1000 := by simpa [within] using h3
  have hwl : IntKind.i64.wrap (1000 - l) = 1000 - l := IntWalk.i64_in _ (by omega)
  have m1 : 0 ≤ a * (1000 - l) ∧ a * (1000 - l) ≤ 40000 * 1000 := ⟨Int.mul_nonneg (by omega) (by omega), Int.mul_le_mul b1.2 (by omega) (by omega) (by omega)⟩
  have m2 : 0 ≤ r * l ∧ r * l ≤ 40000 * 1000 := ⟨Int.mul_nonneg (by omega) (by omega), Int.mul_le_mul b2.2 (by omega) (by omega) (by omega)⟩
  obtain ⟨m10, m11⟩ := m1
  obtain ⟨m20, m21⟩ := m2
  have hw1 : IntKind.i64.wrap (a * (1000 - l)) = a * (1000 - l) := IntWalk.i64_in _ (by omega)
  have hw2 : IntKind.i64.wrap (r * l) = r * l := IntWalk.i64_in _ (by omega)
  have hw3 : IntKind.i64.wrap (a * (1000 - l) + r * l) = a * (1000 - l) + r * l := IntWalk.i64_in _ (by omega)
  have HU := Lib.hid (fun w => fluid_up (a * (1000 - l) + r * l) 1000 w (by omega) (by omega) (by omega) (by omega))
  clear b1 b2 b3
  go_enter Try.func41, Try.ntmps41
  go_wp2_with (first | (go_at_call 62; refine (fluid_within _ _ _ _).mono ?_; rintro e w' ⟨rfl, rfl⟩) | (go_at_call 82; (try simp only [hwl, hw1, hw2, hw3]); refine (HU.out _).mono ?_; rintro e w' ⟨rfl, rfl⟩))
  go_ret
  exact ⟨by rw [hs.out]; rfl, rfl⟩

theorem seg_box3 {w : World} {g : Nat} {a b c d : Value} (h : Box w g 29 #[a, b, c, d]) : w.cell? ⟨g, 2, none⟩ = some c := h.cell 2

set_option maxHeartbeats 1000000 in
theorem fluid_Load (s : Seg) (feed flow slip : Int) (w : World) :
    Calls Try.prog 39 #[segV s, .int .i64 feed, .int .i64 flow, .int .i64 slip] w fun e w' => e = .returned (.tuple #[.int .i64 (Mpl.load s feed flow slip).1, .bool (Mpl.load s feed flow slip).2]) ∧ Below w.heap.size w w' := by
  have HSG := Lib.hid (fun w => fluid_segment s w)
  have b0 : Box (w.alloc (.cells #[.int .i64 s.Long, .int .i64 s.Rise, .int .i64 s.Area, .int .i64 s.Gap] 29)) w.heap.size 29 #[.int .i64 s.Long, .int .i64 s.Rise, .int .i64 s.Area, .int .i64 s.Gap] := Box.new _ _ _ rfl
  have hw0 : Below w.heap.size w (w.alloc (.cells #[.int .i64 s.Long, .int .i64 s.Rise, .int .i64 s.Area, .int .i64 s.Gap] 29)) := (by repeat (first | exact Below.refl _ _ | assumption | refine Below.setCell ?_ (by first | (simp; done) | (simp; omega)) _ | refine belowDrewN ?_ _ | refine Below.drew ?_ | refine Below.alloc ?_ (by first | (simp; done) | (simp; omega)) _))
  have HB := Lib.hid b0
  have HW := Lib.hid hw0
  clear b0 hw0
  unfold segV at *
  cases h0 : goodSeg s
  · have hs : Hid (Mpl.load s feed flow slip = (0, false)) := by simp [Mpl.load, h0, Hid]
    rw [h0] at HSG
    go_enter Try.func39, Try.ntmps39
    go_wp2_with fail
    refine (HSG.out _).mono ?_
    rintro e w1 ⟨rfl, hb⟩
    go_wp2_with fail
    go_ret2
    exact ⟨by rw [hs.out]; rfl, HW.out.trans (hb.mono HW.out.size)⟩
  rw [h0] at HSG
  cases h1 : (within feed 0 1000000 && within flow 0 1000000 && within slip 0 1000)
  · have hs : Hid (Mpl.load s feed flow slip = (0, false)) := by simp only [Mpl.load, h0, h1, Bool.true_and, Hid]; rfl
    cases h2 : within feed 0 1000000
    · go_enter Try.func39, Try.ntmps39
      go_wp2_with (go_at_call 81; refine (HSG.out _).mono ?_; rintro e w1 ⟨rfl, hb⟩)
      go_wp2_with (go_at_call 62; refine (fluid_within _ _ _ _).mono ?_; rintro e w' ⟨rfl, rfl⟩; rw [h2])
      go_ret2
      exact ⟨by rw [hs.out]; rfl, HW.out.trans (hb.mono HW.out.size)⟩
    cases h3 : within flow 0 1000000
    · go_enter Try.func39, Try.ntmps39
      go_wp2_with (first | (go_at_call 81; refine (HSG.out _).mono ?_; rintro e w1 ⟨rfl, hb⟩) | (go_at_call 62; refine (fluid_within _ _ _ _).mono ?_; rintro e w' ⟨rfl, rfl⟩; first | rw [h2] | rw [h3]))
      go_ret2
      exact ⟨by rw [hs.out]; rfl, HW.out.trans (hb.mono HW.out.size)⟩
    have h4 : within slip 0 1000 = false := by simpa [h2, h3] using h1
    go_enter Try.func39, Try.ntmps39
    go_wp2_with (first | (go_at_call 81; refine (HSG.out _).mono ?_; rintro e w1 ⟨rfl, hb⟩) | (go_at_call 62; refine (fluid_within _ _ _ _).mono ?_; rintro e w' ⟨rfl, rfl⟩; first | rw [h2] | rw [h3] | rw [h4]))
    go_ret2
    exact ⟨by rw [hs.out]; rfl, HW.out.trans (hb.mono HW.out.size)⟩
  obtain ⟨⟨h2, h3⟩, h4⟩ : (within feed 0 1000000 = true ∧ within flow 0 1000000 = true) ∧ within slip 0 1000 = true := by simpa [Bool.and_eq_true] using h1
  have b1 : 0 ≤ feed ∧ feed ≤ 1000000 := by simpa [within] using h2
  have b2 : 0 ≤ flow ∧ flow ≤ 1000000 := by simpa [within] using h3
  have b3 : 0 ≤ slip ∧ slip ≤ 1000 := by simpa [within] using h4
  have hg := ((goodSeg_iff s).1 h0).1
  have a0 := hg.area0
  have a1 := hg.area1
  have m1 : 0 ≤ slip * s.Area ∧ slip * s.Area ≤ 1000 * 5000 := ⟨Int.mul_nonneg (by omega) (by omega), Int.mul_le_mul b3.2 a1 (by omega) (by omega)⟩
  obtain ⟨m10, m11⟩ := m1
  have hw1 : IntKind.i64.wrap (slip * s.Area) = slip * s.Area := IntWalk.i64_in _ (by omega)
  have hw2 : IntKind.i64.wrap (flow - slip * s.Area) = flow - slip * s.Area := IntWalk.i64_in _ (by omega)
  have hw3 : IntKind.i64.wrap (1000 * feed) = 1000 * feed := IntWalk.i64_in _ (by omega)
  have hd : Hid (Mpl.load s feed flow slip = if flow - slip * s.Area ≤ 0 then (0, false) else (min 1000 (upDiv (1000 * feed) (flow - slip * s.Area)), true)) := by
    simp [Mpl.load, h0, h2, h3, h4, Hid]
  rw [hd.out]
  clear hg hd h0 h1 a0 a1
  by_cases hq : flow - slip * s.Area ≤ 0
  · rw [if_pos hq]
    have hd : decide (flow - slip * s.Area ≤ 0) = true := decide_eq_true hq
    clear hq
    go_enter Try.func39, Try.ntmps39
    go_wp2_with (first | (go_at_call 81; refine (HSG.out _).mono ?_; rintro e w1 ⟨rfl, hb⟩; have q2 := seg_box3 (HB.out.under hb)) | (go_at_call 62; refine (fluid_within _ _ _ _).mono ?_; rintro e w' ⟨rfl, rfl⟩; first | rw [h2] | rw [h3] | rw [h4]))
    go_ret2
    exact ⟨rfl, HW.out.trans (hb.mono HW.out.size)⟩
  · rw [if_neg hq]
    have hd : decide (flow - slip * s.Area ≤ 0) = false := decide_eq_false hq
    have HU := Lib.hid (fun w => fluid_up (1000 * feed) (flow - slip * s.Area) w (by omega) (by omega) (by omega) (by omega))
    clear hq
    go_enter Try.func39, Try.ntmps39
    go_wp2_with (first | (go_at_call 81; refine (HSG.out _).mono ?_; rintro e w1 ⟨rfl, hb⟩; have q2 := seg_box3 (HB.out.under hb)) | (go_at_call 62; refine (fluid_within _ _ _ _).mono ?_; rintro e w' ⟨rfl, rfl⟩; first | rw [h2] | rw [h3] | rw [h4]) | (go_at_call 82; refine (HU.out _).mono ?_; rintro e w' ⟨rfl, rfl⟩))
    all_goals
      go_ret2
      exact ⟨ret_ib (by omega) rfl, HW.out.trans (hb.mono HW.out.size)⟩

end Go.Proofs.Ytgcfplkfclapiaa

/- Plain laws of pumping: a column told unit by unit. No Go in sight. -/
namespace Mpl

/-- a column, unit by unit -/
def units (l : List Slug) : List Int := l.flatMap fun s => List.replicate s.Volume.toNat s.Weight
theorem units_nil : units [] = [] := rfl
theorem units_cons (s : Slug) (l : List Slug) : units (s :: l) = List.replicate s.Volume.toNat s.Weight ++ units l := by simp [units]
theorem units_append (a b : List Slug) : units (a ++ b) = units a ++ units b := by simp [units]

def NonNeg (l : List Slug) : Prop := ∀ s ∈ l, 0 ≤ s.Volume
theorem NonNeg.cons {s : Slug} {l : List Slug} (h : NonNeg (s :: l)) : 0 ≤ s.Volume ∧ NonNeg l := ⟨h s (by simp), fun x hx => h x (by simp [hx])⟩

theorem units_stays (room : Int) (l : List Slug) (h : NonNeg l) (h0 : 0 ≤ room) : units (stays room l) = (units l).take room.toNat := by
  induction l generalizing room with
  | nil => simp [stays, units]
  | cons s l ih =>
    obtain ⟨h1, h2⟩ := h.cons
    rw [stays, units_cons, units_cons, ih _ h2 (by omega), List.take_append, List.take_replicate, List.length_replicate]
    congr 1
    · congr 1
      simp only
      omega
    · congr 1
      omega
theorem units_goes (room : Int) (l : List Slug) (h : NonNeg l) (h0 : 0 ≤ room) : units (goes room l) = (units l).drop room.toNat := by
  induction l generalizing room with
  | nil => simp [goes, units]
  | cons s l ih =>
    obtain ⟨h1, h2⟩ := h.cons
    rw [goes, units_cons, units_cons, ih _ h2 (by omega), List.drop_append, List.drop_replicate, List.length_replicate]
    congr 1
    · congr 1
      simp only
      omega
    · congr 1
      omega
theorem stays_nonneg (room : Int) (l : List Slug) (h : NonNeg l) (h0 : 0 ≤ room) : NonNeg (stays room l) := by
  induction l generalizing room with
  | nil => intro s hs; simp [stays] at hs
  | cons s l ih =>
    obtain ⟨h1, h2⟩ := h.cons
    intro x hx
    rw [stays] at hx
    rcases List.mem_cons.1 hx with rfl | hx
    · simp only; omega
    · exact ih _ h2 (by omega) x hx
theorem goes_nonneg (room : Int) (l : List Slug) (h : NonNeg l) (h0 : 0 ≤ room) : NonNeg (goes room l) := by
  induction l generalizing room with
  | nil => intro s hs; simp [goes] at hs
  | cons s l ih =>
    obtain ⟨h1, h2⟩ := h.cons
    intro x hx
    rw [goes] at hx
    rcases List.mem_cons.1 hx with rfl | hx
    · simp only; omega
    · exact ih _ h2 (by omega) x hx
theorem stays_length (room : Int) (l : List Slug) : (stays room l).length = l.length := by
  induction l generalizing room with
  | nil => rfl
  | cons s l ih => simp [stays, ih]
theorem goes_length (room : Int) (l : List Slug) : (goes room l).length = l.length := by
  induction l generalizing room with
  | nil => rfl
  | cons s l ih => simp [goes, ih]

/-- nothing empty, no neighbours of one weight -/
def IsPlain : List Slug → Prop
  | [] => True
  | [s] => 1 ≤ s.Volume
  | s :: t :: l => 1 ≤ s.Volume ∧ s.Weight ≠ t.Weight ∧ IsPlain (t :: l)
theorem IsPlain.head {s : Slug} {l : List Slug} (h : IsPlain (s :: l)) : 1 ≤ s.Volume := by
  cases l with
  | nil => exact h
  | cons t l => exact h.1
theorem IsPlain.tail {s : Slug} {l : List Slug} (h : IsPlain (s :: l)) : IsPlain l := by
  cases l with
  | nil => trivial
  | cons t l => exact h.2.2
theorem IsPlain.nonneg {l : List Slug} (h : IsPlain l) : NonNeg l := by
  induction l with
  | nil => intro s hs; cases hs
  | cons s l ih =>
    intro x hx
    rcases List.mem_cons.1 hx with rfl | hx
    · have := h.head; omega
    · exact ih h.tail x hx

theorem plain_first {s : Slug} {l : List Slug} (h : IsPlain (s :: l)) : (units (s :: l)).head? = some s.Weight := by
  have := h.head
  rw [units_cons]
  obtain ⟨n, hn⟩ : ∃ n, s.Volume.toNat = n + 1 := ⟨s.Volume.toNat - 1, by omega⟩
  rw [hn, List.replicate_succ]
  rfl

theorem rep_split (a b : Nat) (x : Int) (A B : List Int) (h : List.replicate a x ++ A = List.replicate b x ++ B) (hA : A.head? ≠ some x) (hB : B.head? ≠ some x) : a = b ∧ A = B := by
  induction a generalizing b with
  | zero =>
    cases b with
    | zero => exact ⟨rfl, by simpa using h⟩
    | succ b =>
      rw [List.replicate_zero, List.nil_append, List.replicate_succ] at h
      rw [h] at hA
      exact absurd rfl hA
  | succ a ih =>
    cases b with
    | zero =>
      rw [List.replicate_zero, List.nil_append, List.replicate_succ] at h
      rw [← h] at hB
      exact absurd rfl hB
    | succ b =>
      rw [List.replicate_succ, List.replicate_succ, List.cons_append, List.cons_append] at h
      injection h with _ h
      obtain ⟨h1, h2⟩ := ih b h
      exact ⟨by omega, h2⟩

theorem plain_next {s : Slug} {l : List Slug} (h : IsPlain (s :: l)) : (units l).head? ≠ some s.Weight := by
  cases l with
  | nil => simp [units]
  | cons t l =>
    rw [plain_first h.2.2]
    intro he
    injection he with he
    exact h.2.1 he.symm

/-- a plain column is told by its units -/
theorem plain_unique (p q : List Slug) (hp : IsPlain p) (hq : IsPlain q) (h : units p = units q) : p = q := by
  induction p generalizing q with
  | nil =>
    cases q with
    | nil => rfl
    | cons s q =>
      have := plain_first hq
      rw [← h] at this
      simp [units] at this
  | cons s p ih =>
    cases q with
    | nil =>
      have := plain_first hp
      rw [h] at this
      simp [units] at this
    | cons t q =>
      have h1 := plain_first hp
      have h2 := plain_first hq
      rw [h, h2] at h1
      injection h1 with hw
      rw [units_cons, units_cons, ← hw] at h
      have hn := plain_next hp
      rw [← hw] at hn
      obtain ⟨h3, h4⟩ := rep_split _ _ _ _ _ h hn (plain_next hq)
      have h5 := hp.head
      have h6 := hq.head
      rw [ih q hp.tail hq.tail h4]
      congr 1
      cases s
      cases t
      simp only at hw h3 h5 h6
      simp only [Slug.mk.injEq]
      exact ⟨hw.symm, by omega⟩

/-- all that may be added -/
def Small (l : List Slug) : Prop := ∀ s ∈ l, 0 ≤ s.Volume ∧ s.Volume ≤ 1099511627776

theorem plain_snoc (out : List Slug) (s : Slug) (h : IsPlain out) (hs : 1 ≤ s.Volume) (hw : ∀ t, out.getLast? = some t → t.Weight ≠ s.Weight) : IsPlain (out ++ [s]) := by
  induction out with
  | nil => exact hs
  | cons a out ih =>
    cases out with
    | nil => exact ⟨h, hw a rfl, hs⟩
    | cons b out => exact ⟨h.1, h.2.1, ih h.2.2 (fun t ht => hw t (by rw [List.getLast?_cons_cons]; exact ht))⟩
theorem plain_grow (out : List Slug) (t : Slug) (v : Int) (h : IsPlain (out ++ [t])) (hv : 0 ≤ v) : IsPlain (out ++ [⟨t.Weight, t.Volume + v⟩]) := by
  induction out with
  | nil => have : 1 ≤ t.Volume := h; show 1 ≤ t.Volume + v; omega
  | cons a out ih =>
    cases out with
    | nil => exact ⟨h.1, h.2.1, by have : 1 ≤ t.Volume := h.2.2; show 1 ≤ t.Volume + v; omega⟩
    | cons b out => exact ⟨h.1, h.2.1, ih h.2.2⟩

theorem plainAdd_spec (out : List Slug) (s : Slug) (h : IsPlain out) (h0 : 0 ≤ s.Volume) (h1 : s.Volume ≤ 1099511627776) : IsPlain (plainAdd out s) ∧ units (plainAdd out s) = units out ++ List.replicate s.Volume.toNat s.Weight := by
  unfold plainAdd
  by_cases hv : 1 ≤ s.Volume
  · rw [if_pos (by simp [within]; omega)]
    cases hl : out.getLast? with
    | none =>
      have : out = [] := by simpa using hl
      subst this
      exact ⟨hv, by simp [units]⟩
    | some t =>
      simp only
      split
      · rename_i hw
        have ht : out ≠ [] := by intro e; rw [e] at hl; cases hl
        have he : out.dropLast ++ [t] = out := by
          rw [List.getLast?_eq_some_getLast ht] at hl
          injection hl with hl
          rw [← hl]
          exact List.dropLast_concat_getLast ht
        rw [← he] at h
        have h2 := h.nonneg t (by simp)
        refine ⟨plain_grow _ _ _ h h0, ?_⟩
        conv => rhs; rw [← he]
        rw [units_append, units_append, List.append_assoc]
        congr 1
        rw [units_cons, units_cons, units_nil, List.append_nil, List.append_nil, ← hw]
        simp only
        rw [List.replicate_append_replicate]
        congr 1
        omega
      · rename_i hw
        refine ⟨plain_snoc _ _ h hv (fun t' ht' => ?_), by rw [units_append]; simp [units]⟩
        rw [hl] at ht'
        injection ht' with ht'
        rw [← ht']
        exact hw
  · have hz : s.Volume = 0 := by omega
    rw [if_neg (by simp [within]; omega), hz]
    exact ⟨h, by simp⟩

theorem plainFold_spec (l : List Slug) (hl : Small l) (out : List Slug) (h : IsPlain out) : IsPlain (l.foldl plainAdd out) ∧ units (l.foldl plainAdd out) = units out ++ units l := by
  induction l generalizing out with
  | nil => exact ⟨h, by simp [units]⟩
  | cons s l ih =>
    have hs := hl s (by simp)
    have h1 := plainAdd_spec out s h hs.1 hs.2
    have h2 := ih (fun x hx => hl x (by simp [hx])) _ h1.1
    refine ⟨h2.1, ?_⟩
    rw [List.foldl_cons, h2.2, h1.2, units_cons, List.append_assoc]
theorem plainOf_spec (l : List Slug) (hl : Small l) : IsPlain (plainOf l) ∧ units (plainOf l) = units l := by
  have := plainFold_spec l hl [] trivial
  exact ⟨this.1, this.2.trans (List.nil_append _)⟩

theorem plainAdd_length (out : List Slug) (s : Slug) : (plainAdd out s).length ≤ out.length + 1 := by
  unfold plainAdd
  split
  · split
    · simp
    · split
      · simp
      · simp
  · omega
theorem plainOf_length (l : List Slug) : (plainOf l).length ≤ l.length := by
  have : ∀ (l out : List Slug), (l.foldl plainAdd out).length ≤ out.length + l.length := by
    intro l
    induction l with
    | nil => intro out; simp
    | cons s l ih => intro out; have h1 := ih (plainAdd out s); have h2 := plainAdd_length out s; simp only [List.foldl_cons, List.length_cons]; omega
  simpa [plainOf] using this l []

/-- the volume of a column -/
def total (l : List Slug) : Int := (l.map Slug.Volume).sum
theorem total_units (l : List Slug) (h : NonNeg l) : total l = (units l).length := by
  induction l with
  | nil => rfl
  | cons s l ih =>
    obtain ⟨h1, h2⟩ := h.cons
    have := ih h2
    rw [units_cons]
    simp only [total, List.map_cons, List.sum_cons, List.length_append, List.length_replicate] at *
    omega
theorem total_nonneg (l : List Slug) (h : NonNeg l) : 0 ≤ total l := by rw [total_units l h]; omega
theorem total_mem (l : List Slug) (h : NonNeg l) (s : Slug) (hs : s ∈ l) : s.Volume ≤ total l := by
  induction l with
  | nil => cases hs
  | cons a l ih =>
    obtain ⟨h1, h2⟩ := h.cons
    have h3 := total_nonneg l h2
    have e : total (a :: l) = a.Volume + total l := by simp [total]
    rw [e]
    rcases List.mem_cons.1 hs with rfl | hs
    · omega
    · have := ih h2 hs; omega

theorem fill_zero (l : List Slug) (left : Int) (h : NonNeg l) (ht : total l = left) : fill left l = 0 := by
  induction l generalizing left with
  | nil =>
    have : left = 0 := by simpa [total] using ht.symm
    rw [fill, this]
    rfl
  | cons s l ih =>
    obtain ⟨h1, h2⟩ := h.cons
    have h3 := total_nonneg l h2
    have e : total (s :: l) = s.Volume + total l := by simp [total]
    rw [fill, if_neg (by omega)]
    exact ih _ h2 (by omega)
theorem fill_total (l : List Slug) (left : Int) (h0 : 0 ≤ left) (h : fill left l = 0) : total l = left := by
  induction l generalizing left with
  | nil =>
    rw [fill] at h
    split at h
    · omega
    · simp [total]; omega
  | cons s l ih =>
    rw [fill] at h
    split at h
    · omega
    · have := ih _ (by omega) h
      have e : total (s :: l) = s.Volume + total l := by simp [total]
      omega

theorem total_held (l : List Slug) : total l = heldUp l l.length := by
  induction l with
  | nil => rfl
  | cons s l ih =>
    rw [List.length_cons, heldUp_cons, ← ih]
    simp [total]
theorem mem_slg {l : List Slug} {s : Slug} (h : s ∈ l) : ∃ i, i < l.length ∧ slg l i = s := by
  obtain ⟨i, hi, rfl⟩ := List.getElem_of_mem h
  exact ⟨i, hi, by simp [slg, hi]⟩
theorem slg_mem {l : List Slug} {i : Nat} (h : i < l.length) : slg l i ∈ l := by simp [slg, h]
theorem GoodCol.nonneg {h : List Seg} {l : List Slug} (g : GoodCol h l) : NonNeg l := fun s hs => by
  obtain ⟨i, hi, rfl⟩ := mem_slg hs
  have := g.v1 i hi
  omega
theorem mem_units {l : List Slug} {s : Slug} (h : s ∈ l) (h1 : 1 ≤ s.Volume) : s.Weight ∈ units l := by
  unfold units
  rw [List.mem_flatMap]
  exact ⟨s, h, by rw [List.mem_replicate]; exact ⟨by omega, rfl⟩⟩
theorem units_mem {l : List Slug} {x : Int} (h : x ∈ units l) : ∃ s ∈ l, s.Weight = x := by
  unfold units at h
  rw [List.mem_flatMap] at h
  obtain ⟨s, hs, hx⟩ := h
  rw [List.mem_replicate] at hx
  exact ⟨s, hs, hx.2.symm⟩
theorem plain_vol {l : List Slug} (h : IsPlain l) : ∀ s ∈ l, 1 ≤ s.Volume := by
  induction l with
  | nil => intro s hs; cases hs
  | cons s l ih =>
    intro x hx
    rcases List.mem_cons.1 hx with rfl | hx
    · exact h.head
    · exact ih h.tail x hx
theorem small_of_total {l : List Slug} (h : NonNeg l) (ht : total l ≤ 1099511627776) : Small l := fun s hs => ⟨h s hs, by have := total_mem l h s hs; omega⟩

/-- a slug that may be pumped -/
structure Pumps (h : List Seg) (s : Slug) : Prop where
  w0 : 0 ≤ s.Weight
  w1 : s.Weight ≤ 40000
  v1 : 1 ≤ s.Volume
  v2 : s.Volume ≤ sizeUp h h.length

theorem pump_good {h : List Seg} {l : List Slug} {s : Slug} (g : GoodCol h l) (hl : l.length ≤ 23) (hs : Pumps h s) :
    pump h l s = (plainOf (stays (sizeUp h h.length) (s :: l)), plainOf (goes (sizeUp h h.length) (s :: l)), 0) ∧
    IsPlain (pump h l s).1 ∧ IsPlain (pump h l s).2.1 ∧
    units (pump h l s).1 = (units (s :: l)).take (sizeUp h h.length).toNat ∧ units (pump h l s).2.1 = (units (s :: l)).drop (sizeUp h h.length).toNat ∧
    (pump h l s).1.length ≤ l.length + 1 := by
  have hV := (g.hole.ups h.length (Nat.le_refl _)).2.2.2.2
  have hn : NonNeg (s :: l) := fun x hx => by
    rcases List.mem_cons.1 hx with rfl | hx
    · have := hs.v1; omega
    · exact g.nonneg x hx
  have hV0 : 0 ≤ sizeUp h h.length := by have := hV.1; omega
  have n1 := stays_nonneg (sizeUp h h.length) (s :: l) hn hV0
  have n2 := goes_nonneg (sizeUp h h.length) (s :: l) hn hV0
  have u1 := units_stays (sizeUp h h.length) (s :: l) hn hV0
  have u2 := units_goes (sizeUp h h.length) (s :: l) hn hV0
  have tl : total l = sizeUp h h.length := by rw [total_held]; exact g.full
  have ts : total (s :: l) = s.Volume + sizeUp h h.length := by rw [← tl]; simp [total]
  have t0 := total_units (s :: l) hn
  have t1 : total (stays (sizeUp h h.length) (s :: l)) ≤ 1099511627776 := by
    rw [total_units _ n1, u1, List.length_take]
    have := hV.2
    omega
  have t2 : total (goes (sizeUp h h.length) (s :: l)) ≤ 1099511627776 := by
    rw [total_units _ n2, u2, List.length_drop]
    have := hV.2
    have := hs.v2
    omega
  have p1 := plainOf_spec _ (small_of_total n1 t1)
  have p2 := plainOf_spec _ (small_of_total n2 t2)
  have len := plainOf_length (stays (sizeUp h h.length) (s :: l))
  rw [stays_length, List.length_cons] at len
  have he : pump h l s = (plainOf (stays (sizeUp h h.length) (s :: l)), plainOf (goes (sizeUp h h.length) (s :: l)), 0) := by
    unfold pump
    have hw0 := hs.w0
    have hw1 := hs.w1
    have hv1 := hs.v1
    have hv2 := hs.v2
    rw [if_neg (by simp [(checkColumn_iff h l).2 g]), if_pos (by simp [within]; omega), if_neg (by omega)]
  rw [he]
  exact ⟨rfl, p1.1, p2.1, p1.2.trans u1, p2.2.trans u2, len⟩

theorem pump_column {h : List Seg} {l : List Slug} {s : Slug} (g : GoodCol h l) (hl : l.length ≤ 23) (hs : Pumps h s) :
    GoodCol h (pump h l s).1 ∧ total (pump h l s).2.1 = s.Volume ∧ plainOf (pump h l s).1 = (pump h l s).1 ∧ plainOf (pump h l s).2.1 = (pump h l s).2.1 ∧
    (slg (pump h l s).1 0).Weight = s.Weight ∧ s.Volume ≤ (slg (pump h l s).1 0).Volume := by
  obtain ⟨_, p1, p2, u1, u2, len⟩ := pump_good g hl hs
  have hV := (g.hole.ups h.length (Nat.le_refl _)).2.2.2.2
  have hn : NonNeg (s :: l) := fun x hx => by
    rcases List.mem_cons.1 hx with rfl | hx
    · have := hs.v1; omega
    · exact g.nonneg x hx
  have tl : total l = sizeUp h h.length := by rw [total_held]; exact g.full
  have ts : total (s :: l) = s.Volume + sizeUp h h.length := by rw [← tl]; simp [total]
  have t0 := total_units (s :: l) hn
  have hv1 := hs.v1
  have hv2 := hs.v2
  generalize (pump h l s).1 = P at *
  generalize (pump h l s).2.1 = O at *
  have tP : total P = sizeUp h h.length := by
    rw [total_units _ p1.nonneg, u1, List.length_take]
    omega
  have tO : total O = s.Volume := by
    rw [total_units _ p2.nonneg, u2, List.length_drop]
    omega
  have sP := small_of_total p1.nonneg (by have := hV.2; omega)
  have sO := small_of_total p2.nonneg (by have := hV.2; omega)
  have iP := plainOf_spec _ sP
  have iO := plainOf_spec _ sO
  have hpos : 0 < P.length := by
    cases P with
    | nil => simp [total] at tP; have := hV.1; have := g.hole.pos; omega
    | cons a P => simp
  refine ⟨⟨g.hole, hpos, by omega, fun i hi => ?_, fun i hi => plain_vol p1 _ (slg_mem hi), by rw [← total_held]; exact tP⟩, tO, plain_unique _ _ iP.1 p1 iP.2, plain_unique _ _ iO.1 p2 iO.2, ?_⟩
  · have hm := mem_units (slg_mem hi) (plain_vol p1 _ (slg_mem hi))
    rw [u1] at hm
    obtain ⟨x, hx, hw⟩ := units_mem (List.mem_of_mem_take hm)
    rw [← hw]
    rcases List.mem_cons.1 hx with rfl | hx
    · exact ⟨hs.w0, hs.w1⟩
    · obtain ⟨k, hk, rfl⟩ := mem_slg hx
      exact g.w0 k hk
  · cases P with
    | nil => simp at hpos
    | cons a P =>
      rw [slg_zero]
      have hh := plain_first p1
      rw [u1, units_cons, List.take_append, List.take_replicate, List.length_replicate, show min (sizeUp h h.length).toNat s.Volume.toNat = s.Volume.toNat by omega] at hh
      obtain ⟨n, hn1⟩ : ∃ n, s.Volume.toNat = n + 1 := ⟨s.Volume.toNat - 1, by omega⟩
      have hw : s.Weight = a.Weight := by
        rw [hn1, List.replicate_succ] at hh
        simpa using hh
      refine ⟨hw.symm, ?_⟩
      have e := u1
      rw [units_cons, units_cons, List.take_append, List.take_replicate, List.length_replicate, show min (sizeUp h h.length).toNat s.Volume.toNat = s.Volume.toNat by omega, hw] at e
      have hnx := plain_next p1
      rcases Int.lt_or_le a.Volume s.Volume with hlt | hle
      · exfalso
        obtain ⟨m, hm⟩ : ∃ m, s.Volume.toNat = a.Volume.toNat + (m + 1) := ⟨s.Volume.toNat - a.Volume.toNat - 1, by omega⟩
        rw [hm, ← List.replicate_append_replicate, List.append_assoc] at e
        have e2 := List.append_cancel_left e
        rw [e2, List.replicate_succ] at hnx
        exact hnx rfl
      · exact hle

theorem pump_twice {h : List Seg} {l : List Slug} {s t : Slug} (g : GoodCol h l) (hl : l.length ≤ 22) (hs : Pumps h s) (ht : Pumps h t) :
    units (pump h (pump h l s).1 t).1 = (List.replicate t.Volume.toNat t.Weight ++ (List.replicate s.Volume.toNat s.Weight ++ units l)).take (sizeUp h h.length).toNat := by
  have g1 := pump_good g (by omega) hs
  have c1 := pump_column g (by omega) hs
  have g2 := pump_good c1.1 (by have := g1.2.2.2.2.2; omega) ht
  rw [g2.2.2.2.1, units_cons, g1.2.2.2.1, units_cons, List.take_append, List.take_take, List.take_append (l₁ := List.replicate t.Volume.toNat t.Weight)]
  congr 2
  omega

theorem pump_order {h : List Seg} {l : List Slug} {s t : Slug} (g : GoodCol h l) (hl : l.length ≤ 21) (hs : Pumps h s) (ht : Pumps h t) (hw : s.Weight = t.Weight) :
    (pump h l s).2.2 = 0 ∧ (pump h l t).2.2 = 0 ∧ (pump h (pump h l s).1 t).2.2 = 0 ∧ (pump h (pump h l t).1 s).2.2 = 0 ∧ (pump h (pump h l s).1 t).1 = (pump h (pump h l t).1 s).1 := by
  have g1 := pump_good g (by omega) hs
  have c1 := pump_column g (by omega) hs
  have g2 := pump_good c1.1 (by have := g1.2.2.2.2.2; omega) ht
  have k1 := pump_good g (by omega) ht
  have d1 := pump_column g (by omega) ht
  have k2 := pump_good d1.1 (by have := k1.2.2.2.2.2; omega) hs
  refine ⟨by rw [g1.1], by rw [k1.1], by rw [g2.1], by rw [k2.1], plain_unique _ _ g2.2.1 k2.2.1 ?_⟩
  rw [pump_twice g (by omega) hs ht, pump_twice g (by omega) ht hs, hw, ← List.append_assoc, ← List.append_assoc, List.replicate_append_replicate, List.replicate_append_replicate, Nat.add_comm]

end Mpl

/- Walks of moonpoolkit: a column made of numbers. -/
namespace Mpl
/-- a column made of numbers -/
structure Colum (V : Int) (l : List Slug) : Prop where
  pos : 0 < l.length
  few : l.length ≤ 6
  one : ∀ s ∈ l, 9000 ≤ s.Weight ∧ s.Weight ≤ 22000 ∧ 1 ≤ s.Volume
  full : total l = V
theorem Colum.good {h : List Seg} {l : List Slug} (c : Colum (sizeUp h h.length) l) (g : GoodHole h) : GoodCol h l := by
  refine ⟨g, c.pos, by have := c.few; omega, fun i hi => ?_, fun i hi => (c.one _ (slg_mem hi)).2.2, by rw [← total_held]; exact c.full⟩
  have := c.one _ (slg_mem hi)
  omega
theorem total_snoc (l : List Slug) (s : Slug) : total (l ++ [s]) = total l + s.Volume := by simp [total]
/-- a column so far, and what is left -/
structure ColSo (V R : Int) (l : List Slug) : Prop where
  one : ∀ s ∈ l, 9000 ≤ s.Weight ∧ s.Weight ≤ 22000 ∧ 1 ≤ s.Volume
  sum : total l + R = V
  left : 1 ≤ R
  tot : 0 ≤ total l
theorem ColSo.nil {V : Int} (h : 1 ≤ V) : ColSo V V [] := ⟨fun s hs => absurd hs (by simp), by simp [total], h, by simp [total]⟩
theorem ColSo.snoc {V R : Int} {l : List Slug} (h : ColSo V R l) {w v : Int} (w0 : 9000 ≤ w) (w1 : w ≤ 22000) (v0 : 1 ≤ v) (v1 : v ≤ R - 1) : ColSo V (R - v) (l ++ [⟨w, v⟩]) := by
  refine ⟨fun s hs => ?_, by rw [total_snoc]; have := h.sum; simp only; omega, by omega, by rw [total_snoc]; have := h.tot; simp only; omega⟩
  rcases List.mem_append.1 hs with hs | hs
  · exact h.one s hs
  · rw [List.mem_singleton.1 hs]; exact ⟨w0, w1, v0⟩
theorem ColSo.done {V R : Int} {l : List Slug} (h : ColSo V R l) (h5 : l.length ≤ 5) {w : Int} (w0 : 9000 ≤ w) (w1 : w ≤ 22000) : Colum V (l ++ [⟨w, R⟩]) := by
  refine ⟨by simp, by simp; omega, fun s hs => ?_, by rw [total_snoc]; exact h.sum⟩
  rcases List.mem_append.1 hs with hs | hs
  · exact h.one s hs
  · rw [List.mem_singleton.1 hs]; exact ⟨w0, w1, h.left⟩
end Mpl
namespace Go.Proofs.Ytgcfplkfclapiaa
open Go.RowKit Go.Shelf Mpl

theorem Slugs.own {w : World} {base : Nat} {e : TypeId} {v : Value} {n : Nat} {l : List Slug} (h : w.ownsRow base e 2 v n (l.flatMap slugC)) :
    ∃ A c, v = .slice A l.length c ∧ l.length ≤ c ∧ Slugs w w.heap.size A l := by
  have hn : n = l.length := by have := h.1; rw [flatC_len slugC 2 (fun _ => rfl)] at this; omega
  subst hn
  obtain ⟨A, c, rfl, hnc, hc⟩ := own_form h
  refine ⟨A, c, rfl, hnc, fun h0 => ?_⟩
  obtain ⟨g, rfl, _, hlt, hcell⟩ := hc h0
  refine ⟨g, 0, rfl, hlt, fun i hi => ?_⟩
  have ht : slg l i = l[i] := by simp [slg, hi]
  have hg := fun j hj => flat_get slugC 2 (fun _ => rfl) l i j hi hj
  rw [ht]
  refine ⟨?_, ?_⟩
  · have := hcell (i * 2 + 0) _ ((hg 0 (by omega)).trans rfl); simpa using this
  · have := hcell (i * 2 + 1) _ ((hg 1 (by omega)).trans rfl); simpa using this
theorem info_Slug : (Try.prog.info? 39).map (fun i => (i.zero, i.size, i.bytes)) = some (some (.agg #[.int .i64 0, .int .i64 0]), 2, 16) := by kernel_rfl

theorem colum_fin {w2 : World} {V : Int} {B B' k : Nat} {ks : List Slug} {x : Slug} {v' : Value} (h : Colum V (ks ++ [x])) (hk : ks.length = k) (ho : w2.ownsRow B' 39 2 v' (k + 1) (ks.flatMap slugC ++ slugC x)) (hB : B ≤ B') :
    ∃ A' c' ls, Ending.returned v' = .returned (.slice A' ls.length c') ∧ w2.ownsRow B 39 2 (.slice A' ls.length c') ls.length (ls.flatMap slugC) ∧ Colum V ls := by
  have h1 : w2.ownsRow B' 39 2 v' (ks ++ [x]).length ((ks ++ [x]).flatMap slugC) := by
    rw [List.flatMap_append, List.length_append, hk]
    simpa using ho
  obtain ⟨A, c, rfl, _, _⟩ := own_form h1
  exact ⟨A, c, ks ++ [x], rfl, own_le h1 hB, h⟩

set_option maxHeartbeats 4000000 in
set_option maxRecDepth 100000 in
theorem kit_Column (h : List Seg) (v0 : Value) (l : List Int) (A : Option Addr) (c : Nat) (w : World) (hv : HoleV w w.heap.size v0 h) (hg : GoodHole h) (hl : Ints w w.heap.size A l) (hin : IntsIn l) (hm : l.length ≤ maxLen) :
    Calls Try.prog 19 #[v0, .slice A l.length c] w fun e w' => (∃ A' c' ls, e = .returned (.slice A' ls.length c') ∧ w'.ownsRow w.heap.size 39 2 (.slice A' ls.length c') ls.length (ls.flatMap slugC) ∧ Colum (sizeUp h h.length) ls) ∧ Below w.heap.size w w' := by
  have HP := Lib.hid (fun W (hW : Below w.heap.size w W) k (hk : k ≤ 1000) => kit_pick l A c k W (hl.up hW hW.size) hin hk hm)
  have hb := Lib.hid (kitPick_bounds l)
  have HVO := Lib.hid (fun W (hW : Below w.heap.size w W) => ref03_Volume v0 h W (hv.up hW hW.size))
  have hvol : volumeOf h = sizeUp h h.length := by unfold volumeOf; rw [if_pos ((checkHole_iff h).2 hg)]
  rw [hvol] at HVO
  have hV := (hg.ups h.length (Nat.le_refl _)).2.2.2.2
  have hV1 : 1 ≤ sizeUp h h.length := by have := hg.pos; omega
  have hV2 := hV.2
  obtain ⟨AH, cH, rfl, _⟩ := hv
  clear hl hin hvol hV hg
  unfold maxLen at hm
  generalize kitPick l = f at *
  generalize l.length = n at *
  generalize sizeUp h h.length = V at *
  generalize h.length = nh at *
  obtain ⟨i0, hi0, hz0, hz1, hz2⟩ := info_parts info_Slug
  have hB0 : Below w.heap.size w (w.alloc (.cells #[.slice AH nh cH] 25)) := (by repeat (first | exact Below.refl _ _ | assumption | refine Below.setCell ?_ (by first | (simp; done) | (simp; omega)) _ | refine belowDrewN ?_ _ | refine Below.drew ?_ | refine Below.alloc ?_ (by first | (simp; done) | (simp; omega)) _))
  have HB0 := Lib.hid hB0
  clear hB0
  go_enter Try.func19, Try.ntmps19
  go_wp2_with fail
  refine (HVO.out _ HB0.out).mono ?_
  rintro e w1 ⟨rfl, hb1⟩
  have BW1 := Lib.hid (HB0.out.trans (hb1.mono HB0.out.size))
  clear hb1 HVO
  go_wp2_with fail
  go_loopw [5, 6, 7] (fun s5 s6 s7 wr => ∃ (k : Nat) (R : Int) (ks : List Slug) (v : Value), k ≤ n ∧ k ≤ 5 ∧ s7 = .int .i64 k ∧ s5 = .int .i64 R ∧ v = s6 ∧ Hid (ks.length = k ∧ ColSo V R ks) ∧ Hid (wr.ownsRow w1.heap.size 39 2 v k (ks.flatMap slugC)) ∧ Hid (Below w.heap.size w wr) ∧ Hid (w1.heap.size ≤ wr.heap.size)) (fun _ _ s7 _ => 6 - (intOf s7).toNat)
  case atStart => exact ⟨0, V, [], .slice none 0 0, Nat.zero_le _, by omega, rfl, rfl, rfl, ⟨rfl, ColSo.nil hV1⟩, World.ownsRow_nil _ _ _ _, BW1, Nat.le_refl _⟩
  case round =>
    obtain ⟨k, R, ks, v, hk, hk5, rfl, rfl, rfl, hks, hown, BW, hsz⟩ := hrel
    have hR1 := hks.out.2.left
    have hR2 : R ≤ V := by have := hks.out.2.sum; have := hks.out.2.tot; omega
    by_cases hgo : k < n ∧ k < 5 ∧ 1 < R
    · obtain ⟨g1, g2, g3⟩ := hgo
      have t1 : decide (k < n) = true := decide_eq_true g1
      have t2 : decide ((k : Int) < 5) = true := decide_eq_true (by omega)
      have t2' : decide (k < 5) = true := decide_eq_true g2
      have t3 : decide (1 < R) = true := decide_eq_true g3
      obtain ⟨r1, r2⟩ := hb.out k
      go_wp2_with fail
      refine (HP.out wr BW.out k (by omega)).mono ?_
      rintro e w' ⟨rfl, rfl⟩
      generalize f k = nn at *
      have m0 := Int.emod_nonneg (nn / 13) (show R - 1 ≠ 0 by omega)
      have m1 := Int.emod_lt_of_pos (nn / 13) (show 0 < R - 1 by omega)
      have hz9 : (R - 1 == 0) = false := beq_eq_false_iff_ne.2 (by omega)
      have d0 : 0 ≤ nn / 13 := by omega
      have hwm : IntKind.i64.wrap ((nn / 13).tmod (R - 1)) = nn / 13 % (R - 1) := by rw [Int.tmod_eq_emod_of_nonneg d0]; exact IntWalk.i64_in _ (by omega)
      have HSN := Lib.hid (fun hw0 hw1 => hks.out.2.snoc (w := 9000 + nn % 13001) (v := 1 + nn / 13 % (R - 1)) hw0 hw1 (by omega) (by omega))
      have hn0 : 0 ≤ nn % 13001 := by omega
      have hn1 : nn % 13001 ≤ 13000 := by omega
      go_wp2_with (at_builtin; refine wpList_append_own _ rfl _ _ 30 rfl w1.heap.size 39 i0 (.agg #[.int .i64 0, .int .i64 0]) 2 16 Try.underlying30 hi0 hz0 hz1 hz2 rfl (by decide) v k (ks.flatMap slugC) rfl (hown.out.alloc _) ⟨wr.heap.size, 0, none⟩ 1 1 (slugC ⟨9000 + nn % 13001, 1 + nn / 13 % (R - 1)⟩) rfl rfl ?_ ?_ ?_ ?_ ?_ ?_)
      · exact cells_new wr (slugC ⟨9000 + nn % 13001, 1 + nn / 13 % (R - 1)⟩) 39
      · simp [slugC, Value.oneCell']
      · unfold maxLen; omega
      · omega
      · have := hsz.out; simp; omega
      intro v' w2 hown1 hg1 _
      have hB1 := Lib.hid (below_grown ((Below.refl w1.heap.size wr).alloc hsz.out _) (hown.out.alloc _) hg1 (by have := hsz.out; simp; omega))
      have HO1 := Lib.hid hown1
      clear hown1 hg1
      have BW2 := Lib.hid (BW.out.trans (hB1.out.mono BW1.out.size))
      go_wp2_with fail
      go_roundw
      case rel =>
        refine ⟨k + 1, R - (1 + nn / 13 % (R - 1)), ks ++ [⟨9000 + nn % 13001, 1 + nn / 13 % (R - 1)⟩], v', g1, by omega, by go_num, rfl, rfl, ⟨by rw [List.length_append, hks.out.1]; rfl, HSN.out (by omega) (by omega)⟩, ?_, BW2, ?_⟩
        · have := HO1.out
          unfold Hid
          rw [List.flatMap_append]
          simpa using this
        · have h1 := hB1.out.size
          have h2 := hsz.out
          unfold Hid
          omega
      case measure => simp [intOf]; omega
    · have HP5 := Lib.hid (HP.out wr BW.out 5 (by omega))
      obtain ⟨r1, r2⟩ := hb.out 5
      have HDN := Lib.hid (fun w hw0 hw1 => hks.out.2.done (w := w) (by rw [hks.out.1]; omega) hw0 hw1)
      generalize f 5 = nn at *
      have hn0 : 0 ≤ nn / 17 % 13001 := by omega
      have hn1 : nn / 17 % 13001 ≤ 13000 := by omega
      by_cases g1 : k < n
      · have t1 : decide (k < n) = true := decide_eq_true g1
        by_cases g2 : k < 5
        · have g3 : ¬ 1 < R := fun h => hgo ⟨g1, g2, h⟩
          have t2 : decide ((k : Int) < 5) = true := decide_eq_true (by omega)
          have t2' : decide (k < 5) = true := decide_eq_true g2
          have t3 : decide (1 < R) = false := decide_eq_false g3
          clear hgo g3
          go_wp2_with fail
          refine HP5.out.mono ?_
          rintro e w' ⟨rfl, rfl⟩
          go_wp2_with (at_builtin; refine wpList_append_own _ rfl _ _ 30 rfl w1.heap.size 39 i0 (.agg #[.int .i64 0, .int .i64 0]) 2 16 Try.underlying30 hi0 hz0 hz1 hz2 rfl (by decide) v k (ks.flatMap slugC) rfl (hown.out.alloc _) ⟨wr.heap.size, 0, none⟩ 1 1 (slugC ⟨9000 + nn / 17 % 13001, R⟩) rfl rfl ?_ ?_ ?_ ?_ ?_ ?_)
          · exact cells_new wr (slugC ⟨9000 + nn / 17 % 13001, R⟩) 39
          · simp [slugC, Value.oneCell']
          · unfold maxLen; omega
          · omega
          · have := hsz.out; simp; omega
          intro v' w2 hown1 hg1 _
          have hB1 := Lib.hid (below_grown ((Below.refl w1.heap.size wr).alloc hsz.out _) (hown.out.alloc _) hg1 (by have := hsz.out; simp; omega))
          have HO1 := Lib.hid hown1
          clear hown1 hg1
          have BW2 := Lib.hid (BW.out.trans (hB1.out.mono BW1.out.size))
          have FIN := Lib.hid (colum_fin (HDN.out (9000 + nn / 17 % 13001) (by omega) (by omega)) hks.out.1 HO1.out (by have := BW1.out.size; omega))
          go_wp2_with fail
          go_ret
          exact ⟨FIN.out, BW2.out⟩
        · have t2 : decide ((k : Int) < 5) = false := decide_eq_false (by omega)
          have t2' : decide (k < 5) = false := decide_eq_false g2
          clear hgo
          go_wp2_with fail
          refine HP5.out.mono ?_
          rintro e w' ⟨rfl, rfl⟩
          go_wp2_with (at_builtin; refine wpList_append_own _ rfl _ _ 30 rfl w1.heap.size 39 i0 (.agg #[.int .i64 0, .int .i64 0]) 2 16 Try.underlying30 hi0 hz0 hz1 hz2 rfl (by decide) v k (ks.flatMap slugC) rfl (hown.out.alloc _) ⟨wr.heap.size, 0, none⟩ 1 1 (slugC ⟨9000 + nn / 17 % 13001, R⟩) rfl rfl ?_ ?_ ?_ ?_ ?_ ?_)
          · exact cells_new wr (slugC ⟨9000 + nn / 17 % 13001, R⟩) 39
          · simp [slugC, Value.oneCell']
          · unfold maxLen; omega
          · omega
          · have := hsz.out; simp; omega
          intro v' w2 hown1 hg1 _
          have hB1 := Lib.hid (below_grown ((Below.refl w1.heap.size wr).alloc hsz.out _) (hown.out.alloc _) hg1 (by have := hsz.out; simp; omega))
          have HO1 := Lib.hid hown1
          clear hown1 hg1
          have BW2 := Lib.hid (BW.out.trans (hB1.out.mono BW1.out.size))
          have FIN := Lib.hid (colum_fin (HDN.out (9000 + nn / 17 % 13001) (by omega) (by omega)) hks.out.1 HO1.out (by have := BW1.out.size; omega))
          go_wp2_with fail
          go_ret
          exact ⟨FIN.out, BW2.out⟩
      · have t1 : decide (k < n) = false := decide_eq_false g1
        clear hgo
        go_wp2_with fail
        refine HP5.out.mono ?_
        rintro e w' ⟨rfl, rfl⟩
        go_wp2_with (at_builtin; refine wpList_append_own _ rfl _ _ 30 rfl w1.heap.size 39 i0 (.agg #[.int .i64 0, .int .i64 0]) 2 16 Try.underlying30 hi0 hz0 hz1 hz2 rfl (by decide) v k (ks.flatMap slugC) rfl (hown.out.alloc _) ⟨wr.heap.size, 0, none⟩ 1 1 (slugC ⟨9000 + nn / 17 % 13001, R⟩) rfl rfl ?_ ?_ ?_ ?_ ?_ ?_)
        · exact cells_new wr (slugC ⟨9000 + nn / 17 % 13001, R⟩) 39
        · simp [slugC, Value.oneCell']
        · unfold maxLen; omega
        · omega
        · have := hsz.out; simp; omega
        intro v' w2 hown1 hg1 _
        have hB1 := Lib.hid (below_grown ((Below.refl w1.heap.size wr).alloc hsz.out _) (hown.out.alloc _) hg1 (by have := hsz.out; simp; omega))
        have HO1 := Lib.hid hown1
        clear hown1 hg1
        have BW2 := Lib.hid (BW.out.trans (hB1.out.mono BW1.out.size))
        have FIN := Lib.hid (colum_fin (HDN.out (9000 + nn / 17 % 13001) (by omega) (by omega)) hks.out.1 HO1.out (by have := BW1.out.size; omega))
        go_wp2_with fail
        go_ret
        exact ⟨FIN.out, BW2.out⟩

end Go.Proofs.Ytgcfplkfclapiaa

/- Walks of moonpoolkit: the volume of a column; two columns alike. -/
namespace Mpl
instance : DecidableEq Slug := fun a b => decidable_of_iff (a.Weight = b.Weight ∧ a.Volume = b.Volume) (by cases a; cases b; simp)
theorem slug_step {x y : List Slug} {k : Nat} (hx : k < x.length) (hy : k < y.length) : (x.drop k = y.drop k) ↔ ((slg x k).Weight = (slg y k).Weight ∧ (slg x k).Volume = (slg y k).Volume ∧ x.drop (k + 1) = y.drop (k + 1)) := by
  have e1 : slg x k = x[k] := by simp [slg, hx]
  have e2 : slg y k = y[k] := by simp [slg, hy]
  rw [List.drop_eq_getElem_cons hx, List.drop_eq_getElem_cons hy, e1, e2, List.cons_eq_cons]
  have : ∀ a b : Slug, a = b ↔ a.Weight = b.Weight ∧ a.Volume = b.Volume := fun a b => by cases a; cases b; simp
  rw [this, and_assoc]
end Mpl
namespace Go.Proofs.Ytgcfplkfclapiaa
open Go.RowKit Go.Shelf Mpl

theorem run_neq_slug (x0 x1 y0 y1 : Int) (w : World) : (binOp .neq 39 (.agg #[.int .i64 x0, .int .i64 x1]) (.agg #[.int .i64 y0, .int .i64 y1])).run Try.prog w = .ok (.bool !(x0 == y0 && x1 == y1)) w := by
  have u3 := Try.underlying2
  have a3 := Try.isAgg2
  have z3 := Try.sizeOf2
  have hS : Try.prog.underlying 39 = some (.struct (Try.prog.fieldsOf 39)) := by kernel_rfl
  have hp : Try.prog.stoodInHeld 39 = false := by kernel_rfl
  rw [run_neq_struct, show (10000 : Nat) = 9999 + 1 from rfl, run_equalIn_agg w 9999 39 _ _ hS hp]
  simp only [Program.fieldsOf, Try.underlying39]
  go_simp
  by_cases h1 : x0 = y0 <;> by_cases h2 : x1 = y1 <;> simp [h1, h2]

set_option maxHeartbeats 4000000 in
theorem kit_Held (l : List Slug) (A : Option Addr) (c : Nat) (w : World) (hl : Slugs w w.heap.size A l) (hm : l.length ≤ 1000) (hb : ∀ k, k ≤ l.length → 0 ≤ heldUp l k ∧ heldUp l k ≤ 1099511627776) :
    Calls Try.prog 23 #[.slice A l.length c] w fun e w' => e = .returned (.int .i64 (heldUp l l.length)) ∧ w = w' := by
  have HL := Lib.hid hl
  have HB := Lib.hid hb
  clear hl hb
  generalize hn : l.length = n at *
  have HN := Lib.hid hn
  clear hn
  go_enter Try.func23, Try.ntmps23
  go_wp2_with fail
  go_loop [3, 4] (fun s3 s4 => ∃ (k : Nat), k ≤ n ∧ s4 = .int .i64 k ∧ s3 = .int .i64 (heldUp l k)) (fun _ s4 => n - (intOf s4).toNat)
  case atStart => exact ⟨0, Nat.zero_le _, rfl, rfl⟩
  case round =>
    obtain ⟨k, hk, rfl, rfl⟩ := hrel
    by_cases hlt : k < n
    · obtain ⟨b, off, rfl, hb, hc⟩ := HL.out (by rw [HN.out]; omega)
      obtain ⟨c0, c1⟩ := hc k (by rw [HN.out]; exact hlt)
      have t0 : decide (k < n) = true := decide_eq_true hlt
      have hst := Lib.hid (heldUp_step l k)
      obtain ⟨p0, p1⟩ := HB.out k (by omega)
      have hq := HB.out (k + 1) (by omega)
      rw [hst.out] at hq
      obtain ⟨p2, p3⟩ := hq
      clear hc
      generalize hS : heldUp l k = S at *
      generalize hS1 : heldUp l (k + 1) = S1 at *
      have HS1 := Lib.hid hS1
      clear hS hS1
      generalize (slg l k).Volume = z at *
      go_wp2_with fail
      go_round
      case rel => exact ⟨k + 1, hlt, by go_num, by rw [HS1.out, hst.out]⟩
      case measure => simp [intOf]; omega
    · obtain rfl : k = n := by omega
      have t0 : decide (k < k) = false := decide_eq_false hlt
      go_wp2_with fail
      go_ret
      exact ⟨rfl, rfl⟩

theorem slug_len {w : World} {B : Nat} {A : Option Addr} {l : List Slug} (h : Slugs w B A l) (h0 : 0 < l.length) : ∃ b off, A = some ⟨b, off, none⟩ ∧ b < B := by
  obtain ⟨b, off, h1, h2, _⟩ := h h0
  exact ⟨b, off, h1, h2⟩

set_option maxHeartbeats 4000000 in
theorem kit_SameSlugs (x y : List Slug) (A B : Option Addr) (c d : Nat) (w : World) (hx : Slugs w w.heap.size A x) (hy : Slugs w w.heap.size B y) (hnx : x.length ≤ 1000) (hny : y.length ≤ 1000) :
    Calls Try.prog 55 #[.slice A x.length c, .slice B y.length d] w fun e w' => e = .returned (.bool (decide (x = y))) ∧ Below w.heap.size w w' := by
  have HX := Lib.hid hx
  have HY := Lib.hid hy
  have hst := Lib.hid (fun k => slug_step (x := x) (y := y) (k := k))
  have hnq := run_neq_slug
  generalize hres : decide (x = y) = res
  have HR := Lib.hid hres
  clear hx hy hres
  generalize hn0 : x.length = n0 at *
  generalize hn1 : y.length = n1 at *
  have HN0 := Lib.hid hn0
  have HN1 := Lib.hid hn1
  clear hn0 hn1
  go_enter Try.func55, Try.ntmps55
  go_wp2_with fail
  go_loopw [5] (fun s5 wr => ∃ k : Nat, k ≤ n0 ∧ k ≤ n1 ∧ s5 = .int .i64 k ∧ Hid (decide (x.drop k = y.drop k) = res) ∧ Hid (Below w.heap.size w wr)) (fun s5 _ => n0 - (intOf s5).toNat)
  case atStart => exact ⟨0, Nat.zero_le _, Nat.zero_le _, rfl, HR, Below.refl _ _⟩
  case round =>
    obtain ⟨k, hk0, hk1, rfl, hr, BW⟩ := hrel
    by_cases h0 : k < n0
    · have t0 : decide (k < n0) = true := decide_eq_true h0
      by_cases h1 : k < n1
      · have t1 : decide (k < n1) = true := decide_eq_true h1
        have hs := Lib.hid (hst.out k h0 h1)
        obtain ⟨ab, ao, rfl, hab, hac⟩ := HX.out (by rw [HN0.out]; omega)
        obtain ⟨bb, bo, rfl, hbb, hbc⟩ := HY.out (by rw [HN1.out]; omega)
        obtain ⟨c0, c1⟩ := hac k (by rw [HN0.out]; exact h0)
        obtain ⟨e0, e1⟩ := hbc k (by rw [HN1.out]; exact h1)
        replace c0 := oldCell BW.out hab c0
        replace c1 := oldCell BW.out hab c1
        replace e0 := oldCell BW.out hbb e0
        replace e1 := oldCell BW.out hbb e1
        have z1 : (k : Int) < (n0 : Int) := by omega
        have z2 : (k : Int) < (n1 : Int) := by omega
        have z3 : (0 : Int) ≤ (k : Int) := by omega
        clear hac hbc
        generalize (slg x k).Weight = a0 at *
        generalize (slg x k).Volume = a1 at *
        generalize (slg y k).Weight = b0 at *
        generalize (slg y k).Volume = b1 at *
        by_cases hq : a0 = b0 ∧ a1 = b1
        · have hq' : (!(a0 == b0 && a1 == b1)) = false := by simp [hq]
          have hn : Hid (decide (x.drop (k + 1) = y.drop (k + 1)) = res) := by unfold Hid; rw [← hr.out]; exact decide_eq_decide.2 ⟨fun h => hs.out.2 ⟨hq.1, hq.2, h⟩, fun h => (hs.out.1 h).2.2⟩
          clear hq
          go_wp2_with fail
          go_quiet (fail)
          go_wp2_with fail
          go_roundw
          case rel => exact ⟨k + 1, h0, h1, by go_num, hn, belowDrewN BW.out _⟩
          case measure => simp [intOf]; omega
        · have hq' : (!(a0 == b0 && a1 == b1)) = true := by
            simp only [Bool.not_eq_true', Bool.and_eq_false_iff, beq_eq_false_iff_ne]
            omega
          have hf : Hid (false = res) := by unfold Hid; rw [← hr.out]; exact (decide_eq_false fun h => hq ⟨(hs.out.1 h).1, (hs.out.1 h).2.1⟩).symm
          clear hq
          go_wp2_with fail
          go_quiet (fail)
          go_wp2_with fail
          go_ret
          exact ⟨ret_bool hf.out, belowDrewN BW.out _⟩
      · obtain rfl : k = n1 := by omega
        have t1 : decide (k < k) = false := decide_eq_false h1
        have t2 : ((n0 : Int) == (k : Int)) = false := beq_eq_false_iff_ne.2 (by omega)
        have t2' : (n0 == k) = false := beq_eq_false_iff_ne.2 (by omega)
        have hf : Hid (false = res) := by
          unfold Hid; rw [← hr.out]
          refine (decide_eq_false fun h => ?_).symm
          have := congrArg List.length h
          simp [HN0.out, HN1.out] at this
          omega
        go_wp2_with fail
        go_ret
        exact ⟨ret_bool hf.out, BW.out⟩
    · obtain rfl : k = n0 := by omega
      have t0 : decide (k < k) = false := decide_eq_false h0
      by_cases h1 : k = n1
      · subst h1
        have hf : Hid (true = res) := by
          unfold Hid; rw [← hr.out, List.drop_eq_nil_of_le (by rw [HN0.out]; omega), List.drop_eq_nil_of_le (by rw [HN1.out]; omega)]; rfl
        go_wp2_with fail
        go_ret
        exact ⟨ret_bool hf.out, BW.out⟩
      · have t2 : ((k : Int) == (n1 : Int)) = false := beq_eq_false_iff_ne.2 (by omega)
        have t2' : (k == n1) = false := beq_eq_false_iff_ne.2 h1
        have hf : Hid (false = res) := by
          unfold Hid; rw [← hr.out]
          refine (decide_eq_false fun h => ?_).symm
          have := congrArg List.length h
          simp [HN0.out, HN1.out] at this
          omega
        go_wp2_with fail
        go_ret
        exact ⟨ret_bool hf.out, BW.out⟩

end Go.Proofs.Ytgcfplkfclapiaa

/- Pressures of valid columns: the call, and its bounds. -/
namespace Mpl
theorem GoodHole.in_ {h : List Seg} (g : GoodHole h) : Go.Proofs.Ytgcfplkfclapiaa.SegsIn h := fun i => by
  unfold Go.Proofs.Ytgcfplkfclapiaa.SegIn Go.Proofs.Ytgcfplkfclapiaa.inI64
  rcases Nat.lt_or_ge i h.length with hi | hi
  · obtain ⟨a, b, c, d, e, f, k⟩ := g.fair i hi
    have := (g.seg hi).1
    omega
  · have : sg h i = ⟨0, 0, 0, 0⟩ := by simp [sg, hi]
    rw [this]
    simp
theorem heldUp_mono {h : List Seg} {l : List Slug} (g : GoodCol h l) {k : Nat} (hk : k ≤ l.length) : 0 ≤ heldUp l k ∧ heldUp l k ≤ sizeUp h h.length := by
  have h1 := g.held k l.length hk (Nat.le_refl _)
  have h2 := g.full
  omega
theorem GoodCol.in_ {h : List Seg} {l : List Slug} (g : GoodCol h l) : Go.Proofs.Ytgcfplkfclapiaa.SlugsIn l := fun i => by
  unfold Go.Proofs.Ytgcfplkfclapiaa.SlugIn Go.Proofs.Ytgcfplkfclapiaa.inI64
  rcases Nat.lt_or_ge i l.length with hi | hi
  · have h1 := g.w0 i hi
    have h2 := g.v1 i hi
    have h3 := heldUp_step l i
    have h4 := heldUp_mono g (k := i + 1) hi
    have h5 := heldUp_mono g (k := i) (by omega)
    have h6 := (g.hole.ups h.length (Nat.le_refl _)).2.2.2.2.2
    omega
  · have : slg l i = ⟨0, 0⟩ := by simp [slg, hi]
    rw [this]
    simp
theorem press_good {h : List Seg} {l : List Slug} (g : GoodCol h l) {top u : Int} (t0 : 0 ≤ top) (t1 : top ≤ 68719476736) (u0 : 0 ≤ u) (u1 : u ≤ sizeUp h h.length) : press h l top u = (pressAt h l top u, 0) := by
  unfold press
  rw [if_neg (by simp [(checkColumn_iff h l).2 g]), if_pos (by simp [within]; omega)]
theorem pressAt_bound {h : List Seg} {l : List Slug} (g : GoodCol h l) {top u : Int} (t0 : 0 ≤ top) (t1 : top ≤ 68719476736) : -2000000000000 ≤ (pressAt h l top u).Lo ∧ (pressAt h l top u).Hi ≤ 2000000000000 := by
  have hb := pressUp_bound g top u t0 t1 (l.length - 1)
  have hf := g.few
  have hw := slg_weight g (pressUp h l top u (l.length - 1)).1
  have ha := height_at g.hole u
  have := addR_bound (p := (pressUp h l top u (l.length - 1)).2) (w := -(slg l (pressUp h l top u (l.length - 1)).1).Weight) (h := At (heightOf h) u) (M := 68719476736 + 41943040000 * (((l.length - 1 : Nat) : Int) + 1)) (by omega) (by omega) ha.1 ha.2.1 ha.2.2 hb.1 hb.2.1 hb.2.2.1
  unfold pressAt
  omega
end Mpl
namespace Go.Proofs.Ytgcfplkfclapiaa
open Go.RowKit Go.Shelf Mpl

theorem own_cap {w : World} {base : Nat} {e : TypeId} {size : Nat} {A : Option Addr} {n c : Nat} {xs : List Value} (h : w.ownsRow base e size (.slice A n c) n xs) : n ≤ c ∧ c ≤ maxLen := by
  rcases h.2 with ⟨h1, h2⟩ | ⟨g, cap, cur, h1, _, _, h3, h4, _⟩
  · injection h1 with _ _ h1
    subst h1
    unfold maxLen
    omega
  · injection h1 with _ _ h1
    subst h1
    exact ⟨h3, h4⟩

/-- a hole of the call's own, as a value -/
theorem own_hole {w : World} {base : Nat} {A : Option Addr} {c : Nat} {h : List Seg} (ho : w.ownsRow base 29 4 (.slice A h.length c) h.length (h.flatMap segC)) : HoleV w w.heap.size (.agg #[.slice A h.length c]) h := by
  obtain ⟨A', c', hv, _, hs⟩ := Segs.own ho
  injection hv with h1 _ h2
  subst h1 h2
  exact ⟨A, c, rfl, hs⟩
theorem own_slugs {w : World} {base : Nat} {A : Option Addr} {c : Nat} {l : List Slug} (ho : w.ownsRow base 39 2 (.slice A l.length c) l.length (l.flatMap slugC)) : Slugs w w.heap.size A l := by
  obtain ⟨A', c', hv, _, hs⟩ := Slugs.own ho
  injection hv with h1 _ h2
  subst h1
  exact hs

theorem good_Press {h : List Seg} {l : List Slug} (g : GoodCol h l) {v : Value} {A : Option Addr} {c : Nat} (top u : Int) {W : World} (hv : HoleV W W.heap.size v h) (hs : Slugs W W.heap.size A l) (hc : l.length ≤ c ∧ c ≤ maxLen) (t0 : 0 ≤ top) (t1 : top ≤ 68719476736) (u0 : 0 ≤ u) (u1 : u ≤ sizeUp h h.length) :
    Calls Try.prog 21 #[v, .slice A l.length c, .int .i64 top, .int .i64 u] W fun e w' => e = .returned (.tuple #[.agg #[.int .i64 (pressAt h l top u).Lo, .int .i64 (pressAt h l top u).Hi], .int .i64 0]) ∧ Below W.heap.size W w' := by
  have := fluid_Press v h l A c top u W hv g.hole.in_ (by have := g.hole.few; unfold maxLen; omega) hs g.in_ hc.1 hc.2
  rw [press_good g t0 t1 u0 u1] at this
  exact this

end Go.Proofs.Ytgcfplkfclapiaa

/- Walks of the package fluid: a plain column. -/
namespace Mpl
theorem fold_step (l : List Slug) (k : Nat) (h : k < l.length) : (l.take (k + 1)).foldl plainAdd [] = plainAdd ((l.take k).foldl plainAdd []) (slg l k) := by
  rw [List.take_succ_eq_append_getElem h, List.foldl_append]
  simp [slg, h]
/-- the column so far -/
def plainTo (l : List Slug) (k : Nat) : List Slug := (l.take k).foldl plainAdd []
theorem plainTo_step (l : List Slug) (k : Nat) (h : k < l.length) : plainTo l (k + 1) = plainAdd (plainTo l k) (slg l k) := fold_step l k h
theorem plainTo_all (l : List Slug) : plainTo l l.length = plainOf l := by simp [plainTo, plainOf]
theorem plainTo_len (l : List Slug) (k : Nat) : (plainTo l k).length ≤ k := by
  have : ∀ (l out : List Slug), (l.foldl plainAdd out).length ≤ out.length + l.length := by
    intro l
    induction l with
    | nil => intro out; simp
    | cons s l ih => intro out; have h1 := ih (plainAdd out s); have h2 := plainAdd_length out s; simp only [List.foldl_cons, List.length_cons]; omega
  have h := this (l.take k) []
  have h2 : (l.take k).length ≤ k := by simp; omega
  unfold plainTo
  simp at h
  omega
theorem getLast_slg {l : List Slug} (h : 0 < l.length) : l.getLast? = some (slg l (l.length - 1)) := by
  rw [List.getLast?_eq_getElem?]
  simp [slg, show l.length - 1 < l.length by omega]
theorem add_skip {out : List Slug} {s : Slug} (h : within s.Volume 1 1099511627776 = false) : plainAdd out s = out := by unfold plainAdd; rw [h]; rfl
theorem add_first {s : Slug} (h : within s.Volume 1 1099511627776 = true) : plainAdd [] s = [s] := by unfold plainAdd; rw [h]; rfl
theorem add_new {out : List Slug} {s : Slug} (h : within s.Volume 1 1099511627776 = true) (h0 : 0 < out.length) (hw : (slg out (out.length - 1)).Weight ≠ s.Weight) : plainAdd out s = out ++ [s] := by
  unfold plainAdd
  rw [h, getLast_slg h0]
  simp [hw]
theorem add_more {out : List Slug} {s : Slug} (h : within s.Volume 1 1099511627776 = true) (h0 : 0 < out.length) (hw : (slg out (out.length - 1)).Weight = s.Weight) : plainAdd out s = out.dropLast ++ [⟨(slg out (out.length - 1)).Weight, (slg out (out.length - 1)).Volume + s.Volume⟩] := by
  unfold plainAdd
  rw [h, getLast_slg h0]
  simp [hw]
/-- no volume of the column so far is great -/
theorem plainTo_vol (l : List Slug) (k : Nat) : ∀ s ∈ plainTo l k, 1 ≤ s.Volume ∧ s.Volume ≤ 1099511627776 * k := by
  induction k with
  | zero => intro s hs; simp [plainTo] at hs
  | succ k ih =>
    by_cases hk : k < l.length
    · rw [plainTo_step l k hk]
      cases hv : within (slg l k).Volume 1 1099511627776
      · rw [add_skip hv]
        intro s hs
        have := ih s hs
        omega
      · have hb : 1 ≤ (slg l k).Volume ∧ (slg l k).Volume ≤ 1099511627776 := by simpa [within] using hv
        rcases Nat.eq_zero_or_pos (plainTo l k).length with h0 | h0
        · rw [List.eq_nil_of_length_eq_zero h0, add_first hv]
          intro s hs
          rw [List.mem_singleton.1 hs]
          omega
        · by_cases hw : (slg (plainTo l k) ((plainTo l k).length - 1)).Weight = (slg l k).Weight
          · rw [add_more hv h0 hw]
            intro s hs
            rcases List.mem_append.1 hs with hs | hs
            · have := ih s ((List.dropLast_sublist _).mem hs)
              omega
            · rw [List.mem_singleton.1 hs]
              have := ih _ (slg_mem (l := plainTo l k) (i := (plainTo l k).length - 1) (by omega))
              simp only
              omega
          · rw [add_new hv h0 hw]
            intro s hs
            rcases List.mem_append.1 hs with hs | hs
            · have := ih s hs
              omega
            · rw [List.mem_singleton.1 hs]
              omega
    · have : plainTo l (k + 1) = plainTo l k := by unfold plainTo; rw [List.take_of_length_le (by omega), List.take_of_length_le (by omega)]
      rw [this]
      intro s hs
      have := ih s hs
      omega
end Mpl
namespace Go.Proofs.Ytgcfplkfclapiaa
open Go.RowKit Go.Shelf Mpl

/-- the last slug of a row of the call's own, as cells that may be written -/
theorem own_last {w : World} {base : Nat} {v : Value} {n : Nat} {d : List Slug} {s : Slug} (ho : w.ownsRow base 39 2 v n ((d ++ [s]).flatMap slugC)) :
    ∃ g c, v = .slice (some ⟨g, 0, none⟩) (d.length + 1) c ∧ base ≤ g ∧ g < w.heap.size ∧ w.cell? ⟨g, d.length * 2, none⟩ = some (.int .i64 s.Weight) ∧ w.cell? ⟨g, d.length * 2 + 1, none⟩ = some (.int .i64 s.Volume) ∧ w.frozen? ⟨g, d.length * 2 + 1, none⟩ = false ∧
      ∀ x, (w.setCell ⟨g, d.length * 2 + 1, none⟩ (.int .i64 x)).ownsRow base 39 2 v n ((d ++ [(⟨s.Weight, x⟩ : Slug)]).flatMap slugC) := by
  have h1 := ho.1
  rw [flatC_len slugC 2 (fun _ => rfl), List.length_append, List.length_singleton] at h1
  have hn : n = d.length + 1 := by omega
  subst hn
  have e1 : (d ++ [s]).flatMap slugC = d.flatMap slugC ++ [.int .i64 s.Weight, .int .i64 s.Volume] := by rw [List.flatMap_append]; rfl
  have hl : (d.flatMap slugC).length = d.length * 2 := flatC_len slugC 2 (fun _ => rfl) d
  rcases ho.2 with ⟨_, h2⟩ | ⟨g, cap, cur, rfl, hg, hh, hnc, hcm, hsz, ht⟩
  · omega
  have hb : Box w g 39 cur := hh
  rw [e1] at ht
  have c0 : cur[d.length * 2]? = some (.int .i64 s.Weight) := by
    have := congrArg (fun l : List Value => l[d.length * 2]?) ht
    simp only [List.getElem?_take] at this
    rw [if_pos (by omega), List.getElem?_append_right (by omega), hl] at this
    simpa using this
  have c1 : cur[d.length * 2 + 1]? = some (.int .i64 s.Volume) := by
    have := congrArg (fun l : List Value => l[d.length * 2 + 1]?) ht
    simp only [List.getElem?_take] at this
    rw [if_pos (by omega), List.getElem?_append_right (by omega), hl] at this
    simpa using this
  refine ⟨g, cap, rfl, hg, hb.lt, (hb.cell _).trans c0, (hb.cell _).trans c1, hb.frozen _, fun x => ⟨?_, .inr ⟨g, cap, cur.setIfInBounds (d.length * 2 + 1) (.int .i64 x), rfl, hg, hb.set_ _ _, hnc, hcm, by simpa using hsz, ?_⟩⟩⟩
  · rw [flatC_len slugC 2 (fun _ => rfl), List.length_append, List.length_singleton]
  · rw [Array.toList_setIfInBounds, List.take_set, ht, List.flatMap_append, List.set_append_right _ _ (by omega), hl, Nat.add_sub_cancel_left]
    rfl

theorem fluid_last {out : List Slug} (h : 0 < out.length) : ∃ d s, out = d ++ [s] ∧ d = out.dropLast ∧ s = slg out (out.length - 1) ∧ d.length = out.length - 1 := by
  refine ⟨out.dropLast, slg out (out.length - 1), ?_, rfl, rfl, by simp⟩
  have := List.dropLast_concat_getLast (l := out) (by intro e; rw [e] at h; simp at h)
  have e : slg out (out.length - 1) = out.getLast (by intro e; rw [e] at h; simp at h) := by
    rw [List.getLast_eq_getElem]
    simp [slg, show out.length - 1 < out.length by omega]
  rw [e]
  exact this.symm

set_option maxHeartbeats 4000000 in
set_option maxRecDepth 100000 in
theorem fluid_Plain (l : List Slug) (A : Option Addr) (c : Nat) (w : World) (hl : Slugs w w.heap.size A l) (hm : l.length ≤ 1000) :
    Calls Try.prog 57 #[.slice A l.length c] w fun e w' => (∃ A' c', e = .returned (.slice A' (plainOf l).length c') ∧ w'.ownsRow w.heap.size 39 2 (.slice A' (plainOf l).length c') (plainOf l).length ((plainOf l).flatMap slugC)) ∧ Below w.heap.size w w' := by
  have HL := Lib.hid hl
  have HST := Lib.hid (fun k h => plainTo_step l k h)
  have HALL := Lib.hid (plainTo_all l)
  have HPL := Lib.hid (fun k => plainTo_len l k)
  have HV := Lib.hid (fun k => plainTo_vol l k)
  clear hl
  generalize plainOf l = res at *
  generalize hn : l.length = n at *
  have HN := Lib.hid hn
  clear hn
  obtain ⟨i0, hi0, hz0, hz1, hz2⟩ := info_parts info_Slug
  go_enter Try.func57, Try.ntmps57
  go_wp2_with fail
  go_loopw [3, 9] (fun s3 s9 wr => ∃ (k : Nat) (v : Value), k ≤ n ∧ v = s3 ∧ s9 = .int .i64 k ∧ Hid (wr.ownsRow w.heap.size 39 2 v (plainTo l k).length ((plainTo l k).flatMap slugC)) ∧ Hid (Below w.heap.size w wr)) (fun _ s9 _ => n - (intOf s9).toNat)
  case atStart => exact ⟨0, .slice none 0 0, Nat.zero_le _, rfl, rfl, World.ownsRow_nil _ _ _ _, Below.refl _ _⟩
  case round =>
    obtain ⟨k, v, hk, rfl, rfl, hown, BW⟩ := hrel
    have hsz := BW.out.size
    by_cases hlt : k < n
    · have t0 : decide (k < n) = true := decide_eq_true hlt
      obtain ⟨b, off, rfl, hb, hc⟩ := HL.out (by rw [HN.out]; omega)
      obtain ⟨c0, c1⟩ := hc k (by rw [HN.out]; exact hlt)
      have d0 := oldCell BW.out hb c0
      have d1 := oldCell BW.out hb c1
      have hbw : b < wr.heap.size := by omega
      have hst := Lib.hid (HST.out k hlt)
      have hpl := HPL.out k
      have hvol := Lib.hid (HV.out k)
      have b1 : (k : Int) < (n : Int) := by omega
      have b2 : (0 : Int) ≤ (k : Int) := by omega
      have BWA := Lib.hid (BW.out.alloc hsz (.cells #[.int .i64 (slg l k).Weight, .int .i64 (slg l k).Volume] 39))
      have OWA := Lib.hid (hown.out.alloc (.cells #[.int .i64 (slg l k).Weight, .int .i64 (slg l k).Volume] 39))
      clear hc c0 c1
      generalize hP1 : plainTo l (k + 1) = P1 at *
      have HP1 := Lib.hid hP1
      generalize plainTo l k = P at *
      generalize slg l k = s at *
      clear hP1
      cases hw : within s.Volume 1 1099511627776
      · have he := Lib.hid (hst.out.trans (add_skip hw))
        go_wp2_with (go_at_call 62; refine (fluid_within _ _ _ _).mono ?_; rintro e w' ⟨rfl, rfl⟩; rw [hw])
        go_roundw
        case rel => exact ⟨k + 1, v, hlt, rfl, by go_num, (by unfold Hid; rw [HP1.out, he.out]; exact OWA.out), BWA⟩
        case measure => simp [intOf]; omega
      · rcases Nat.eq_zero_or_pos P.length with h0 | h0
        · obtain rfl := List.eq_nil_of_length_eq_zero h0
          have he := Lib.hid (hst.out.trans (add_first hw))
          obtain ⟨A0, cc, rfl, _, _⟩ := own_form hown.out
          clear hpl hvol hst
          go_wp2_with (go_at_call 62; refine (fluid_within _ _ _ _).mono ?_; rintro e w' ⟨rfl, rfl⟩; rw [hw])
          go_quiet (fail)
          obtain ⟨wq, hwq⟩ : ∃ wq, (wr.alloc (.cells #[.int .i64 s.Weight, .int .i64 s.Volume] 39)).drewN nq = wq := ⟨_, rfl⟩
          have BWQ := Lib.hid (show Below w.heap.size w wq by rw [← hwq]; exact belowDrewN BWA.out nq)
          have OWQ := Lib.hid (show wq.ownsRow w.heap.size 39 2 (.slice A0 0 cc) 0 (([] : List Slug).flatMap slugC) by rw [← hwq]; exact OWA.out)
          have BXQ := Lib.hid (show Box wq wr.heap.size 39 #[.int .i64 s.Weight, .int .i64 s.Volume] by rw [← hwq]; exact (Box.new wr _ _ rfl).drewN nq)
          have x0 : wq.cell? ⟨wr.heap.size, 0, none⟩ = some (.int .i64 s.Weight) := BXQ.out.cell 0
          have x1 : wq.cell? ⟨wr.heap.size, 1, none⟩ = some (.int .i64 s.Volume) := BXQ.out.cell 1
          have HWQ := Lib.hid hwq
          rw [HWQ.out]
          clear hwq d0 d1
          go_wp2_with (at_builtin; refine wpList_append_own _ rfl _ _ 30 rfl w.heap.size 39 i0 (.agg #[.int .i64 0, .int .i64 0]) 2 16 Try.underlying30 hi0 hz0 hz1 hz2 rfl (by decide) (.slice A0 0 cc) 0 (([] : List Slug).flatMap slugC) rfl (OWQ.out.alloc _) ⟨wq.heap.size, 0, none⟩ 1 1 (slugC s) rfl rfl ?_ ?_ ?_ ?_ ?_ ?_)
          · exact cells_new wq (slugC s) 39
          · simp [slugC, Value.oneCell']
          · unfold maxLen; omega
          · omega
          · have := BWQ.out.size; simp; omega
          intro v' w2 hown1 hg1 _
          have hB1 := Lib.hid (below_grown (BWQ.out.alloc BWQ.out.size _) (OWQ.out.alloc _) hg1 (by have := BWQ.out.size; simp; omega))
          have HO1 := Lib.hid hown1
          clear hown1 hg1
          go_wp2_with fail
          go_roundw
          case rel => exact ⟨k + 1, v', hlt, rfl, by go_num, (by unfold Hid; rw [HP1.out, he.out]; have := HO1.out; simpa using this), hB1⟩
          case measure => simp [intOf]; omega
        · obtain ⟨d, t, hdt, hd, ht, hdl⟩ := fluid_last h0
          have hvt := hvol.out t (by rw [hdt]; simp)
          have hmore : t.Weight = s.Weight → P1 = d ++ [(⟨t.Weight, t.Volume + s.Volume⟩ : Slug)] := fun h => by
            rw [hst.out, add_more hw h0 (by rw [← ht]; exact h), ← hd, ← ht]
          have hnew : t.Weight ≠ s.Weight → P1 = P ++ [s] := fun h => by
            rw [hst.out, add_new hw h0 (by rw [← ht]; exact h)]
          have hsv : 1 ≤ s.Volume ∧ s.Volume ≤ 1099511627776 := by simpa [within] using hw
          clear hst hvol hd ht
          subst hdt
          have hlen : (d ++ [t]).length = d.length + 1 := by simp
          rw [hlen] at OWA hpl
          clear hlen h0 hdl hown
          obtain ⟨g, cc, rfl, hg, hglt, e0, e1, f1, _⟩ := own_last OWA.out
          generalize hmm : d.length = m at *
          have hml := Lib.hid hmm
          clear hmm
          have a1 : (m : Int) + 1 - 1 = (m : Int) := by omega
          have a2 : ((m + 1 : Nat) : Int) - 1 = (m : Int) := by omega
          have a3 : decide ((0 : Int) < ((m + 1 : Nat) : Int)) = true := decide_eq_true (by omega)
          have a4 : decide ((0 : Int) < (m : Int) + 1) = true := decide_eq_true (by omega)
          have a5 : (m : Int) < ((m + 1 : Nat) : Int) := by omega
          have a6 : (0 : Int) ≤ (m : Int) := by omega
          by_cases hq : t.Weight = s.Weight
          · have q1 : (t.Weight == s.Weight) = true := beq_iff_eq.2 hq
            have he := Lib.hid (hmore hq)
            clear hmore hnew hq
            go_wp2_with (go_at_call 62; refine (fluid_within _ _ _ _).mono ?_; rintro e w' ⟨rfl, rfl⟩; rw [hw])
            go_quiet (fail)
            obtain ⟨wq, hwq⟩ : ∃ wq, (wr.alloc (.cells #[.int .i64 s.Weight, .int .i64 s.Volume] 39)).drewN nq = wq := ⟨_, rfl⟩
            have BWQ := Lib.hid (show Below w.heap.size w wq by rw [← hwq]; exact belowDrewN BWA.out nq)
            have OWQ := Lib.hid (show wq.ownsRow w.heap.size 39 2 (.slice (some ⟨g, 0, none⟩) (m + 1) cc) (m + 1) ((d ++ [t]).flatMap slugC) by rw [← hwq]; exact OWA.out)
            have BXQ := Lib.hid (show Box wq wr.heap.size 39 #[.int .i64 s.Weight, .int .i64 s.Volume] by rw [← hwq]; exact (Box.new wr _ _ rfl).drewN nq)
            have x0 : wq.cell? ⟨wr.heap.size, 0, none⟩ = some (.int .i64 s.Weight) := BXQ.out.cell 0
            have x1 : wq.cell? ⟨wr.heap.size, 1, none⟩ = some (.int .i64 s.Volume) := BXQ.out.cell 1
            have HWQ := Lib.hid hwq
            rw [HWQ.out]
            clear hwq d0 d1 e0 e1 f1
            obtain ⟨g', cc', hv', hg', hglt', e0, e1, f1, hset⟩ := own_last OWQ.out
            rw [hml.out] at e0 e1 f1 hset
            injection hv' with hv1 hv2 hv3
            injection hv1 with hv1
            injection hv1 with hv1 hv4 hv5
            subst hv1
            subst hv3
            clear hv2 hv4 hv5
            have HSET := Lib.hid hset
            clear hset
            have hwr : IntKind.i64.wrap (t.Volume + s.Volume) = t.Volume + s.Volume := IntWalk.i64_in _ (by omega)
            go_wp2_with fail
            go_region
            go_wp2_with fail
            go_roundw
            case rel =>
              refine ⟨k + 1, .slice (some ⟨g, 0, none⟩) (m + 1) cc, hlt, rfl, by go_num, ?_, (BWQ.out.setCell (p := ⟨g, m * 2 + 1, none⟩) (by simpa using hg) _).drew⟩
              unfold Hid
              rw [HP1.out, he.out]
              have h9 := HSET.out (t.Volume + s.Volume)
              have hll : (d ++ [(⟨t.Weight, t.Volume + s.Volume⟩ : Slug)]).length = m + 1 := by simp [hml.out]
              rw [hll]
              exact h9
            case measure => simp [intOf]; omega
          · have q1 : (t.Weight == s.Weight) = false := beq_eq_false_iff_ne.2 hq
            have he := Lib.hid (hnew hq)
            clear hmore hnew hq
            go_wp2_with (go_at_call 62; refine (fluid_within _ _ _ _).mono ?_; rintro e w' ⟨rfl, rfl⟩; rw [hw])
            go_quiet (fail)
            obtain ⟨wq, hwq⟩ : ∃ wq, (wr.alloc (.cells #[.int .i64 s.Weight, .int .i64 s.Volume] 39)).drewN nq = wq := ⟨_, rfl⟩
            have BWQ := Lib.hid (show Below w.heap.size w wq by rw [← hwq]; exact belowDrewN BWA.out nq)
            have OWQ := Lib.hid (show wq.ownsRow w.heap.size 39 2 (.slice (some ⟨g, 0, none⟩) (m + 1) cc) (m + 1) ((d ++ [t]).flatMap slugC) by rw [← hwq]; exact OWA.out)
            have BXQ := Lib.hid (show Box wq wr.heap.size 39 #[.int .i64 s.Weight, .int .i64 s.Volume] by rw [← hwq]; exact (Box.new wr _ _ rfl).drewN nq)
            have x0 : wq.cell? ⟨wr.heap.size, 0, none⟩ = some (.int .i64 s.Weight) := BXQ.out.cell 0
            have x1 : wq.cell? ⟨wr.heap.size, 1, none⟩ = some (.int .i64 s.Volume) := BXQ.out.cell 1
            have HWQ := Lib.hid hwq
            rw [HWQ.out]
            clear hwq d0 d1 e0 e1 f1
            go_wp2_with (at_builtin; refine wpList_append_own _ rfl _ _ 30 rfl w.heap.size 39 i0 (.agg #[.int .i64 0, .int .i64 0]) 2 16 Try.underlying30 hi0 hz0 hz1 hz2 rfl (by decide) (.slice (some ⟨g, 0, none⟩) (m + 1) cc) (m + 1) ((d ++ [t]).flatMap slugC) rfl (OWQ.out.alloc _) ⟨wq.heap.size, 0, none⟩ 1 1 (slugC s) rfl rfl ?_ ?_ ?_ ?_ ?_ ?_)
            · exact cells_new wq (slugC s) 39
            · simp [slugC, Value.oneCell']
            · unfold maxLen; omega
            · omega
            · have := BWQ.out.size; simp; omega
            intro v' w2 hown1 hg1 _
            have hB1 := Lib.hid (below_grown (BWQ.out.alloc BWQ.out.size _) (OWQ.out.alloc _) hg1 (by have := BWQ.out.size; simp; omega))
            have HO1 := Lib.hid hown1
            clear hown1 hg1
            go_wp2_with fail
            go_roundw
            case rel => exact ⟨k + 1, v', hlt, rfl, by go_num, (by
              unfold Hid
              rw [HP1.out, he.out]
              have h9 := HO1.out
              have hll : (d ++ [t] ++ [s]).length = m + 1 + 1 := by simp [hml.out]
              rw [hll]
              simpa using h9), hB1⟩
            case measure => simp [intOf]; omega
    · obtain rfl : k = n := by omega
      have t0 : decide (k < k) = false := decide_eq_false hlt
      have he : plainTo l k = res := HALL.out
      have HO := hown.out
      rw [he] at HO
      obtain ⟨A', c', rfl, _, _⟩ := own_form HO
      have HO' := Lib.hid HO
      clear HO he
      go_wp2_with fail
      go_ret
      exact ⟨⟨A', c', rfl, HO'.out⟩, BW.out⟩

end Go.Proofs.Ytgcfplkfclapiaa

/- Walks of the package fluid: pumping. -/
namespace Go.Proofs.Ytgcfplkfclapiaa
open Go.RowKit Go.Shelf Mpl

theorem own_keep {W W' : World} {base : Nat} {e : TypeId} {size : Nat} {v : Value} {n : Nat} {xs : List Value} {row : Option Nat} (h : W.ownsRow base e size v n xs) (hg : W.grownBy W' row) (hne : v.ownBlock = none ∨ v.ownBlock ≠ row) : W'.ownsRow base e size v n xs := by
  obtain ⟨h1, h2⟩ := h
  refine ⟨h1, ?_⟩
  rcases h2 with h2 | ⟨g, cap, cur, hv, hgg, hh, r⟩
  · exact .inl h2
  · refine .inr ⟨g, cap, cur, hv, hgg, (hg.block g (Array.getElem?_eq_some_iff.1 hh).1 ?_).trans hh, r⟩
    rcases hne with h | h
    · rw [hv] at h; cases h
    · rw [hv] at h; exact h

/-- two columns of the call's own, in blocks apart -/
structure Rows2 (W : World) (base : Nat) (vn vo : Value) (na no : List Slug) : Prop where
  o1 : W.ownsRow base 39 2 vn na.length (na.flatMap slugC)
  o2 : W.ownsRow base 39 2 vo no.length (no.flatMap slugC)
  ne : vn.ownBlock = none ∨ vo.ownBlock = none ∨ vn.ownBlock ≠ vo.ownBlock
theorem Rows2.swap {W : World} {base : Nat} {vn vo : Value} {na no : List Slug} (h : Rows2 W base vn vo na no) : Rows2 W base vo vn no na := ⟨h.o2, h.o1, by rcases h.ne with h | h | h <;> simp_all [eq_comm]⟩
theorem Rows2.under {W W' : World} {base : Nat} {vn vo : Value} {na no : List Slug} (h : Rows2 W base vn vo na no) (hb : Below W.heap.size W W') : Rows2 W' base vn vo na no := ⟨own_under h.o1 hb, own_under h.o2 hb, h.ne⟩
theorem Rows2.far {W : World} {base : Nat} {vn vo : Value} {na no : List Slug} (h : Rows2 W base vn vo na no) {p : Addr} (hp : p.block < base) (u : Value) : Rows2 (W.setCell p u) base vn vo na no := ⟨own_far h.o1 hp u, own_far h.o2 hp u, h.ne⟩
theorem Rows2.push {W W' : World} {base g cap : Nat} {vn vo : Value} {na no : List Slug} {x : Slug} (h : Rows2 W base vn vo na no) (ho : W'.ownsRow base 39 2 (.slice (some ⟨g, 0, none⟩) (na.length + 1) cap) (na.length + 1) (na.flatMap slugC ++ slugC x)) (hg : W.grownBy W' vn.ownBlock) (hat : vn.ownBlock = some g ∨ g = W.heap.size) :
    Rows2 W' base (.slice (some ⟨g, 0, none⟩) (na.length + 1) cap) vo (na ++ [x]) no := by
  have hlt := own_lt h.o2
  refine ⟨by rw [List.flatMap_append, List.length_append]; simpa using ho, own_keep h.o2 hg ?_, ?_⟩
  · rcases h.ne with h1 | h1 | h1
    · by_cases h2 : vo.ownBlock = none
      · exact .inl h2
      · right; rw [h1]; exact h2
    · exact .inl h1
    · exact .inr fun e => h1 e.symm
  · right
    by_cases h2 : vo.ownBlock = none
    · exact .inl h2
    · right
      intro e
      have e' : vo.ownBlock = some g := e.symm
      rcases hat with h3 | h3
      · rcases h.ne with h4 | h4 | h4
        · rw [h3] at h4; cases h4
        · exact h2 h4
        · exact h4 (h3.trans e'.symm)
      · have := hlt g e'
        omega

set_option maxHeartbeats 4000000 in
set_option maxRecDepth 100000 in
theorem fluid_Pump1 (x : Slug) (gr : Nat) (room : Int) (vn vo : Value) (na no : List Slug) (base B : Nat) (W : World) (gn gO : Nat)
    (br : Box W gr 2 #[.int .i64 room]) (bn : Box W gn 30 #[vn]) (bo : Box W gO 30 #[vo]) (hR : Rows2 W base vn vo na no)
    (h1 : gn < base) (h2 : gO < base) (h3 : gr < base) (n1 : gn ≠ gO) (n2 : gn ≠ gr) (n3 : gO ≠ gr) (hB1 : B ≤ gn) (hB2 : B ≤ gO) (hB3 : B ≤ gr) (hbs : base ≤ W.heap.size)
    (r0 : 0 ≤ room) (r1 : room ≤ 1099511627776) (x0 : 0 ≤ x.Volume) (x1 : x.Volume ≤ 1099511627776) (hn1 : na.length ≤ 1000) (hn2 : no.length ≤ 1000) :
    Calls Try.prog 89 #[slugV x, .pointer (some ⟨gr, 0, none⟩), .pointer (some ⟨gn, 0, none⟩), .pointer (some ⟨gO, 0, none⟩)] W fun e W' => (∃ v, e = .returned v) ∧ ∃ vn' vo', Box W' gr 2 #[.int .i64 (room - min room x.Volume)] ∧ Box W' gn 30 #[vn'] ∧ Box W' gO 30 #[vo'] ∧
      Rows2 W' base vn' vo' (na ++ [⟨x.Weight, min room x.Volume⟩]) (no ++ [⟨x.Weight, x.Volume - min room x.Volume⟩]) ∧ Below B W W' ∧ base ≤ W'.heap.size := by
  obtain ⟨i0, hi0, hz0, hz1, hz2⟩ := info_parts info_Slug
  obtain ⟨mn, hmn⟩ : ∃ mn, (if x.Volume < room then x.Volume else room) = mn := ⟨_, rfl⟩
  have hmn2 : min room x.Volume = mn := by rw [← hmn]; split <;> omega
  rw [hmn2]
  have m0 : 0 ≤ mn := by omega
  have m1 : mn ≤ room := by omega
  have m2 : mn ≤ x.Volume := by omega
  unfold slugV
  clear hmn2
  generalize x.Weight = xw at *
  generalize x.Volume = xv at *
  have hv1 : Hid (vn.ownBlock ≠ some W.heap.size) := fun e => by have := own_lt hR.o1 _ e; omega
  have hv2 : Hid (vo.ownBlock ≠ some W.heap.size) := fun e => by have := own_lt hR.o2 _ e; omega
  have nb1 : Hid (∀ k, k < base → vn.ownBlock ≠ some k) := fun k hk he => by
    rcases hR.o1.2 with ⟨h, _⟩ | ⟨g', _, _, h, hg', _⟩
    · rw [h] at he; simp [Value.ownBlock] at he
    · rw [h] at he
      have : g' = k := by simpa [Value.ownBlock] using he
      omega
  have nb2 : Hid (∀ k, k < base → vo.ownBlock ≠ some k) := fun k hk he => by
    rcases hR.o2.2 with ⟨h, _⟩ | ⟨g', _, _, h, hg', _⟩
    · rw [h] at he; simp [Value.ownBlock] at he
    · rw [h] at he
      have : g' = k := by simpa [Value.ownBlock] using he
      omega
  obtain ⟨w0, hw0⟩ : ∃ w0, W.alloc (.cells #[.int .i64 xw, .int .i64 xv] 39) = w0 := ⟨_, rfl⟩
  have ha : Below W.heap.size W w0 := by rw [← hw0]; exact (Below.refl _ _).alloc (Nat.le_refl _) _
  have BX := Lib.hid (show Box w0 W.heap.size 39 #[.int .i64 xw, .int .i64 xv] by rw [← hw0]; exact Box.new _ _ _ rfl)
  have BR := Lib.hid (br.under ha)
  have BN := Lib.hid (bn.under ha)
  have BO := Lib.hid (bo.under ha)
  have RR := Lib.hid (hR.under ha)
  have HB := Lib.hid (ha.mono (show B ≤ W.heap.size by omega))
  have hs0 : w0.heap.size = W.heap.size + 1 := by rw [← hw0]; simp
  have HW0 := Lib.hid hw0
  have HS0 := Lib.hid hs0
  have hltr := br.lt
  have hltn := bn.lt
  have hlto := bo.lt
  clear hw0 ha hs0 br bn bo hR
  have q0 : w0.cell? ⟨gr, 0, none⟩ = some (.int .i64 room) := BR.out.cell 0
  have q1 : w0.cell? ⟨W.heap.size, 1, none⟩ = some (.int .i64 xv) := BX.out.cell 1
  have f0 := BR.out.frozen 0
  go_enter Try.func89, Try.ntmps89
  go_upto_region 1 with fail
  rw [HW0.out]
  go_upto_region 2 with fail
  obtain ⟨w1, hw1⟩ : ∃ w1, w0.setCell ⟨gr, 0, none⟩ (.int .i64 (room - mn)) = w1 := ⟨_, rfl⟩
  have ne0 : W.heap.size ≠ gr := by omega
  have BX1 := Lib.hid (show Box w1 W.heap.size 39 #[.int .i64 xw, .int .i64 xv] by rw [← hw1]; exact BX.out.far (by simpa using ne0) _)
  have BR1 := Lib.hid (show Box w1 gr 2 #[.int .i64 (room - mn)] by rw [← hw1]; simpa using BR.out.set_ 0 (.int .i64 (room - mn)))
  have BN1 := Lib.hid (show Box w1 gn 30 #[vn] by rw [← hw1]; exact BN.out.far (by simpa using n2) _)
  have BO1 := Lib.hid (show Box w1 gO 30 #[vo] by rw [← hw1]; exact BO.out.far (by simpa using n3) _)
  have RR1 := Lib.hid (show Rows2 w1 base vn vo na no by rw [← hw1]; exact RR.out.far (by simpa using h3) _)
  have HB1 := Lib.hid (show Below B W w1 by rw [← hw1]; exact HB.out.setCell (p := ⟨gr, 0, none⟩) (by simpa using hB3) _)
  have hs1 : w1.heap.size = W.heap.size + 1 := by rw [← hw1]; simpa using HS0.out
  have HW1 := Lib.hid hw1
  have HS1 := Lib.hid hs1
  clear hw1 BX BR BN BO RR HB HS0 HW0
  have y0 : w1.cell? ⟨gn, 0, none⟩ = some vn := BN1.out.cell 0
  have y1 : w1.cell? ⟨W.heap.size, 0, none⟩ = some (.int .i64 xw) := BX1.out.cell 0
  have l1 : W.heap.size < w1.heap.size := by omega
  clear hs1
  go_upto_region 3 with fail
  rw [HW1.out]
  clear q0 q1 f0
  go_wp2_with (at_builtin; refine wpList_append_lies _ rfl _ _ 30 rfl base 39 i0 (.agg #[.int .i64 0, .int .i64 0]) 2 16 Try.underlying30 hi0 hz0 hz1 hz2 rfl (by decide) vn na.length (na.flatMap slugC) rfl (RR1.out.o1.alloc _) ⟨w1.heap.size, 0, none⟩ 1 1 (slugC ⟨xw, mn⟩) rfl rfl ?_ ?_ ?_ ?_ ?_ ?_ (w1.heap.size + 1) ?_ ?_)
  · exact cells_new w1 (slugC ⟨xw, mn⟩) 39
  · simp [slugC, Value.oneCell']
  · omega
  · unfold maxLen; omega
  · omega
  · simp; omega
  · simp
  intro g cap w2 hown2 hg2 hat2 hlt2
  have hba : Below w1.heap.size w1 (w1.alloc (.cells #[.int .i64 xw, .int .i64 mn] 39)) := (Below.refl _ _).alloc (Nat.le_refl _) _
  have hs1 := HS1.out
  have hsa : (w1.alloc (.cells #[.int .i64 xw, .int .i64 mn] 39)).heap.size = w1.heap.size + 1 := by simp
  have RR2 := Lib.hid ((RR1.out.under hba).push hown2 hg2 (by rw [hsa]; exact hat2))
  have BX2 := Lib.hid ((BX1.out.under hba).grownRow hg2 hv1.out)
  have BR2 := Lib.hid ((BR1.out.under hba).grownRow hg2 (nb1.out _ h3))
  have BN2 := Lib.hid ((BN1.out.under hba).grownRow hg2 (nb1.out _ h1))
  have BO2 := Lib.hid ((BO1.out.under hba).grownRow hg2 (nb1.out _ h2))
  have HB2 := Lib.hid (below_grown (HB1.out.trans (hba.mono (by have := HB1.out.size; omega))) (own_le (RR1.out.under hba).o1 (show B ≤ base by omega)) hg2 (by simp; omega))
  have hs2 := hg2.size
  have HS2 := Lib.hid (show base ≤ w2.heap.size ∧ W.heap.size + 1 ≤ w2.heap.size by simp at hs2; omega)
  obtain ⟨w3, hw3⟩ : ∃ w3, w2.setCell ⟨gn, 0, none⟩ (.slice (some ⟨g, 0, none⟩) (na.length + 1) cap) = w3 := ⟨_, rfl⟩
  have neX : W.heap.size ≠ gn := by omega
  have BX3 := Lib.hid (show Box w3 W.heap.size 39 #[.int .i64 xw, .int .i64 xv] by rw [← hw3]; exact BX2.out.far (by simpa using neX) _)
  have BR3 := Lib.hid (show Box w3 gr 2 #[.int .i64 (room - mn)] by rw [← hw3]; exact BR2.out.far (by simpa using n2.symm) _)
  have BN3 := Lib.hid (show Box w3 gn 30 #[.slice (some ⟨g, 0, none⟩) (na.length + 1) cap] by rw [← hw3]; simpa using BN2.out.set_ 0 (.slice (some ⟨g, 0, none⟩) (na.length + 1) cap))
  have BO3 := Lib.hid (show Box w3 gO 30 #[vo] by rw [← hw3]; exact BO2.out.far (by simpa using n1.symm) _)
  have RR3 := Lib.hid (show Rows2 w3 base (.slice (some ⟨g, 0, none⟩) (na.length + 1) cap) vo (na ++ [⟨xw, mn⟩]) no by rw [← hw3]; exact RR2.out.far (by simpa using h1) _)
  have HB3' := Lib.hid (show Below B W w3 by rw [← hw3]; exact HB2.out.setCell (p := ⟨gn, 0, none⟩) (by simpa using hB1) _)
  have HS3 := Lib.hid (show base ≤ w3.heap.size ∧ W.heap.size + 1 ≤ w3.heap.size by rw [← hw3]; simpa using HS2.out)
  have HW3 := Lib.hid hw3
  have k0 := BN2.out.cell 0
  have k1 := BN2.out.frozen 0
  simp only [List.getElem?_toArray, List.getElem?_cons_zero] at k0
  clear hw3 hown2 hg2 hat2 hba hs1 hsa hs2 BX1 BR1 BN1 BO1 RR1 BX2 BR2 BN2 BO2 RR2 HB1 HB2 y0 y1 l1
  have y0 : w3.cell? ⟨gO, 0, none⟩ = some vo := BO3.out.cell 0
  have y1 : w3.cell? ⟨W.heap.size, 0, none⟩ = some (.int .i64 xw) := BX3.out.cell 0
  have y2 : w3.cell? ⟨W.heap.size, 1, none⟩ = some (.int .i64 xv) := BX3.out.cell 1
  have l1 : W.heap.size < w3.heap.size := by have := HS3.out.2; omega
  go_upto_region 4 with fail
  rw [HW3.out]
  clear k0 k1
  go_wp2_with (at_builtin; refine wpList_append_lies _ rfl _ _ 30 rfl base 39 i0 (.agg #[.int .i64 0, .int .i64 0]) 2 16 Try.underlying30 hi0 hz0 hz1 hz2 rfl (by decide) vo no.length (no.flatMap slugC) rfl (RR3.out.o2.alloc _) ⟨w3.heap.size, 0, none⟩ 1 1 (slugC ⟨xw, xv - mn⟩) rfl rfl ?_ ?_ ?_ ?_ ?_ ?_ (w3.heap.size + 1) ?_ ?_)
  · exact cells_new w3 (slugC ⟨xw, xv - mn⟩) 39
  · simp [slugC, Value.oneCell']
  · omega
  · unfold maxLen; omega
  · omega
  · have := HS3.out.1; simp; omega
  · simp
  intro g4 cap4 w4 hown4 hg4 hat4 hlt4
  have hba : Below w3.heap.size w3 (w3.alloc (.cells #[.int .i64 xw, .int .i64 (xv - mn)] 39)) := (Below.refl _ _).alloc (Nat.le_refl _) _
  have hsa : (w3.alloc (.cells #[.int .i64 xw, .int .i64 (xv - mn)] 39)).heap.size = w3.heap.size + 1 := by simp
  have RR4 := Lib.hid ((RR3.out.under hba).swap.push hown4 hg4 (by rw [hsa]; exact hat4)).swap
  have BR4 := Lib.hid ((BR3.out.under hba).grownRow hg4 (nb2.out _ h3))
  have BN4 := Lib.hid ((BN3.out.under hba).grownRow hg4 (nb2.out _ h1))
  have BO4 := Lib.hid ((BO3.out.under hba).grownRow hg4 (nb2.out _ h2))
  have hs3 := HS3.out
  have HB4 := Lib.hid (below_grown (HB3'.out.trans (hba.mono (by omega))) (own_le (RR3.out.under hba).o2 (show B ≤ base by omega)) hg4 (by simp; omega))
  have hs4 := hg4.size
  have HS4 := Lib.hid (show base ≤ w4.heap.size by simp at hs4; omega)
  have k0 := BO4.out.cell 0
  have k1 := BO4.out.frozen 0
  simp only [List.getElem?_toArray, List.getElem?_cons_zero] at k0
  clear hown4 hg4 hat4 hba hsa hs3 hs4 BX3 BR3 BN3 BO3 RR3 HB3' y0 y1 y2 l1
  go_wp2_with fail
  go_end0
  refine ⟨⟨_, rfl⟩, .slice (some ⟨g, 0, none⟩) (na.length + 1) cap, .slice (some ⟨g4, 0, none⟩) (no.length + 1) cap4, BR4.out.far (by simpa using n3.symm) _, BN4.out.far (by simpa using n1) _, ?_, RR4.out.far (by simpa using h2) _, HB4.out.setCell (p := ⟨gO, 0, none⟩) (by simpa using hB2) _, by simpa using HS4.out⟩
  simpa using BO4.out.set_ 0 (.slice (some ⟨g4, 0, none⟩) (no.length + 1) cap4)

end Go.Proofs.Ytgcfplkfclapiaa

/- Walks of the package fluid: pumping, whole. -/
namespace Mpl
/-- what is put, slug by slug: what room is left, what stays, what goes -/
def putTo (V : Int) (l : List Slug) : Nat → Int × List Slug × List Slug
  | 0 => (V, [], [])
  | k + 1 => ((putTo V l k).1 - min (putTo V l k).1 (slg l k).Volume, (putTo V l k).2.1 ++ [⟨(slg l k).Weight, min (putTo V l k).1 (slg l k).Volume⟩], (putTo V l k).2.2 ++ [⟨(slg l k).Weight, (slg l k).Volume - min (putTo V l k).1 (slg l k).Volume⟩])
theorem putTo_spec (V : Int) (l : List Slug) (k : Nat) (hk : k ≤ l.length) : stays V l = (putTo V l k).2.1 ++ stays (putTo V l k).1 (l.drop k) ∧ goes V l = (putTo V l k).2.2 ++ goes (putTo V l k).1 (l.drop k) := by
  induction k with
  | zero => simp [putTo]
  | succ k ih =>
    obtain ⟨h1, h2⟩ := ih (by omega)
    have hd : l.drop k = slg l k :: l.drop (k + 1) := by
      rw [List.drop_eq_getElem_cons (by omega)]
      simp [slg, show k < l.length by omega]
    rw [hd, stays] at h1
    rw [hd, goes] at h2
    refine ⟨?_, ?_⟩
    · rw [h1]; simp [putTo]
    · rw [h2]; simp [putTo]
theorem putTo_all (V : Int) (l : List Slug) : (putTo V l l.length).2.1 = stays V l ∧ (putTo V l l.length).2.2 = goes V l := by
  obtain ⟨h1, h2⟩ := putTo_spec V l l.length (Nat.le_refl _)
  rw [h1, h2]
  simp [stays, goes]
theorem putTo_room (V : Int) (l : List Slug) (hV : 0 ≤ V) (h : ∀ i, i < l.length → 0 ≤ (slg l i).Volume) (k : Nat) (hk : k ≤ l.length) : 0 ≤ (putTo V l k).1 ∧ (putTo V l k).1 ≤ V ∧ (putTo V l k).2.1.length = k ∧ (putTo V l k).2.2.length = k := by
  induction k with
  | zero => simp [putTo]; omega
  | succ k ih =>
    have i := ih (by omega)
    have := h k (by omega)
    simp only [putTo, List.length_append, List.length_singleton]
    omega
end Mpl
namespace Go.Proofs.Ytgcfplkfclapiaa
open Go.RowKit Go.Shelf Mpl
attribute [local go_sem] Oper.semAt_some

theorem enters_Pump1 : ∀ args w, (callFunc 89 args).run Try.prog w = .ok (.enter 89 args) w := enters_of Try.func89 (by kernel_rfl) rfl

theorem results_pump {fn : Func} {p q u : Tmp} (h : fn.results = #[.cell p 30, .cell q 30, .tmp u]) (tmps : Array Value) (w : World) (g g' : Nat) (a1 a2 : Option Addr) (n1 c1 n2 c2 : Nat) (c : Value)
    (hp : tmps.getD p undef = .pointer (some ⟨g, 0, none⟩)) (hq : tmps.getD q undef = .pointer (some ⟨g', 0, none⟩)) (hu : tmps.getD u undef = c) (h1 : w.cell? ⟨g, 0, none⟩ = some (.slice a1 n1 c1)) (h2 : w.cell? ⟨g', 0, none⟩ = some (.slice a2 n2 c2)) :
    (results fn tmps).run Try.prog w = .ok (.tuple #[.slice a1 n1 c1, .slice a2 n2 c2, c]) w := by
  simp only [results, h]
  rw [Array.getD_eq_getD_getElem?] at hp hq hu
  simp [Sem.run_bind, Result.andThen]
  rw [hp, hq, hu]
  simp [go_sem, h1, h2]

section
variable {P : Program} {ops : Array Oper} {Q : Exit → Act → World → Prop} {md : Region.Mode} {q : Nat} {S : Bool → World → Prop} {Z : Nat → Bool}
/-- one of two operations may come up -/
theorem AnyMid.two {i j : Nat} {o o' : Oper} {m : Nat} {b : Array Bool} {a : Act} {w : World} (hr : Region.ready md ops b = [i, j]) (ho : ops[i]? = some o) (hg : o.guard = none) (ho' : ops[j]? = some o') (hg' : o'.guard = none)
    (h : ∀ K : Act → World → Prop, (∀ a' w', (Z i = false → S ((b.setIfInBounds i true).getD q true) w') → AnyMid P md ops Q q S Z m (b.setIfInBounds i true) a' w' → K a' w') → o.wp P a w K Q)
    (h' : ∀ K : Act → World → Prop, (∀ a' w', (Z j = false → S ((b.setIfInBounds j true).getD q true) w') → AnyMid P md ops Q q S Z m (b.setIfInBounds j true) a' w' → K a' w') → o'.wp P a w K Q) : AnyMid P md ops Q q S Z (m + 1) b a w :=
  ⟨fun h0 => (by rw [hr] at h0; cases h0), fun l hl => by
    rw [hr] at hl
    simp only [List.mem_cons, List.not_mem_nil, or_false] at hl
    rcases hl with rfl | rfl
    · unfold wpOp
      simp only [ho]
      rw [if_pos (by simp [Region.wanted, hg])]
      exact .inl (h _ fun a' w' h1 h2 => ⟨h1, h2⟩)
    · unfold wpOp
      simp only [ho']
      rw [if_pos (by simp [Region.wanted, hg'])]
      exact .inl (h' _ fun a' w' h1 h2 => ⟨h1, h2⟩)⟩
end

/-- while slugs are put -/
def PuSt (w : World) (base gr gn gO : Nat) (V : Int) (S : List Slug) (k : Nat) (W : World) : Prop :=
  ∃ vn vo, Box W gr 2 #[.int .i64 (putTo V S k).1] ∧ Box W gn 30 #[vn] ∧ Box W gO 30 #[vo] ∧ Rows2 W base vn vo (putTo V S k).2.1 (putTo V S k).2.2 ∧ Below w.heap.size w W ∧ base ≤ W.heap.size
theorem PuSt.under {w W W' : World} {base gr gn gO : Nat} {V : Int} {S : List Slug} {k : Nat} (h : PuSt w base gr gn gO V S k W) (hb : Below W.heap.size W W') : PuSt w base gr gn gO V S k W' := by
  obtain ⟨vn, vo, c1, c2, c3, hr, hw, hs⟩ := h
  exact ⟨vn, vo, c1.under hb, c2.under hb, c3.under hb, hr.under hb, hw.trans (hb.mono hw.size), Nat.le_trans hs hb.size⟩
theorem pump_put {w : World} {base gr gn gO : Nat} {V : Int} {S : List Slug} {k : Nat} {W : World} (h : PuSt w base gr gn gO V S k W) (h1 : gn < base) (h2 : gO < base) (h3 : gr < base) (n1 : gn ≠ gO) (n2 : gn ≠ gr) (n3 : gO ≠ gr) (b1 : w.heap.size ≤ gn) (b2 : w.heap.size ≤ gO) (b3 : w.heap.size ≤ gr)
    (r0 : 0 ≤ (putTo V S k).1) (r1 : (putTo V S k).1 ≤ 1099511627776) (x0 : 0 ≤ (slg S k).Volume) (x1 : (slg S k).Volume ≤ 1099511627776) (m1 : (putTo V S k).2.1.length ≤ 1000) (m2 : (putTo V S k).2.2.length ≤ 1000) :
    Calls Try.prog 89 #[.agg #[.int .i64 (slg S k).Weight, .int .i64 (slg S k).Volume], .pointer (some ⟨gr, 0, none⟩), .pointer (some ⟨gn, 0, none⟩), .pointer (some ⟨gO, 0, none⟩)] W fun e W' => (∃ v, e = .returned v) ∧ PuSt w base gr gn gO V S (k + 1) W' := by
  obtain ⟨vn, vo, c1, c2, c3, hr, hb, hs⟩ := h
  refine (fluid_Pump1 (slg S k) gr _ vn vo _ _ base w.heap.size W gn gO c1 c2 c3 hr h1 h2 h3 n1 n2 n3 b1 b2 b3 hs r0 r1 x0 x1 m1 m2).mono ?_
  rintro e W' ⟨hv, vn', vo', d1, d2, d3, hr', hb', hs'⟩
  exact ⟨hv, vn', vo', d1, d2, d3, hr', hb.trans hb', hs'⟩

/-- all put, and plain -/
structure PuEnd (w : World) (base gn gO : Nat) (v1 v2 u1 u2 : Value) (l1 l2 : List Slug) (W : World) : Prop where
  n1 : Box W gn 30 #[u1]
  n2 : Box W gO 30 #[u2]
  o1 : W.ownsRow base 39 2 v1 l1.length (l1.flatMap slugC)
  o2 : W.ownsRow base 39 2 v2 l2.length (l2.flatMap slugC)
  b : Below w.heap.size w W
  ne : gn ≠ gO
  h1 : gn < base
  h2 : gO < base
  h3 : w.heap.size ≤ gn
  h4 : w.heap.size ≤ gO
theorem PuEnd.put1 {w W : World} {base gn gO : Nat} {v1 v2 u1 u2 : Value} {l1 l2 : List Slug} (h : PuEnd w base gn gO v1 v2 u1 u2 l1 l2 W) (v : Value) : PuEnd w base gn gO v1 v2 v u2 l1 l2 (W.setCell ⟨gn, 0, none⟩ v) :=
  ⟨by simpa using h.n1.set_ 0 v, h.n2.far (by simpa using h.ne.symm) _, own_far h.o1 (by simpa using h.h1) _, own_far h.o2 (by simpa using h.h1) _, h.b.setCell (p := ⟨gn, 0, none⟩) (by simpa using h.h3) _, h.ne, h.h1, h.h2, h.h3, h.h4⟩
theorem PuEnd.put2 {w W : World} {base gn gO : Nat} {v1 v2 u1 u2 : Value} {l1 l2 : List Slug} (h : PuEnd w base gn gO v1 v2 u1 u2 l1 l2 W) (v : Value) : PuEnd w base gn gO v1 v2 u1 v l1 l2 (W.setCell ⟨gO, 0, none⟩ v) :=
  ⟨h.n1.far (by simpa using h.ne) _, by simpa using h.n2.set_ 0 v, own_far h.o1 (by simpa using h.h2) _, own_far h.o2 (by simpa using h.h2) _, h.b.setCell (p := ⟨gO, 0, none⟩) (by simpa using h.h4) _, h.ne, h.h1, h.h2, h.h3, h.h4⟩
theorem PuEnd.drew {w W : World} {base gn gO : Nat} {v1 v2 u1 u2 : Value} {l1 l2 : List Slug} (h : PuEnd w base gn gO v1 v2 u1 u2 l1 l2 W) : PuEnd w base gn gO v1 v2 u1 u2 l1 l2 W.drew :=
  ⟨h.n1.drew, h.n2.drew, own_under h.o1 (Below.refl _ _).drew, own_under h.o2 (Below.refl _ _).drew, h.b.drew, h.ne, h.h1, h.h2, h.h3, h.h4⟩

/-- what is pumped, in memory -/
def PumpV (w : World) (P : List Slug × List Slug × Int) (e : Ending) (w' : World) : Prop :=
  (∃ A1 c1 A2 c2, e = .returned (.tuple #[.slice A1 P.1.length c1, .slice A2 P.2.1.length c2, .int .i64 P.2.2]) ∧ w'.ownsRow w.heap.size 39 2 (.slice A1 P.1.length c1) P.1.length (P.1.flatMap slugC) ∧ w'.ownsRow w.heap.size 39 2 (.slice A2 P.2.1.length c2) P.2.1.length (P.2.1.flatMap slugC)) ∧ Below w.heap.size w w'

set_option maxHeartbeats 8000000 in
set_option maxRecDepth 100000 in
theorem fluid_Pump (v0 : Value) (h : List Seg) (l : List Slug) (s : Slug) (A : Option Addr) (c : Nat) (w : World) (hv : HoleV w w.heap.size v0 h) (hin : SegsIn h) (hm : h.length ≤ maxLen) (hl : Slugs w w.heap.size A l) (hlin : SlugsIn l) (hlm : l.length ≤ maxLen) :
    Calls Try.prog 53 #[v0, .slice A l.length c, slugV s] w fun e w' => PumpV w (pump h l s) e w' := by
  have hvv := hv
  obtain ⟨AH, cH, rfl, hS⟩ := hv
  obtain ⟨w0, hw0⟩ : ∃ w0, (((w.alloc (.cells #[.slice AH h.length cH] 25)).alloc (.cells #[.int .i64 s.Weight, .int .i64 s.Volume] 39)).alloc (.cells #[.slice none 0 0] 30)).alloc (.cells #[.slice none 0 0] 30) = w0 := ⟨_, rfl⟩
  have hB0 : Below w.heap.size w w0 := by rw [← hw0]; exact (by repeat (first | exact Below.refl _ _ | assumption | refine Below.setCell ?_ (by first | (simp; done) | (simp; omega)) _ | refine belowDrewN ?_ _ | refine Below.drew ?_ | refine Below.alloc ?_ (by first | (simp; done) | (simp; omega)) _))
  have B0 := Lib.hid (show Box w0 w.heap.size 25 #[.slice AH h.length cH] by rw [← hw0]; exact (((Box.new w _ _ rfl).alloc _).alloc _).alloc _)
  have B1 := Lib.hid (show Box w0 (w.heap.size + 1) 39 #[.int .i64 s.Weight, .int .i64 s.Volume] by rw [← hw0]; exact ((Box.new _ _ _ (by simp)).alloc _).alloc _)
  have B2 := Lib.hid (show Box w0 (w.heap.size + 1 + 1) 30 #[.slice none 0 0] by rw [← hw0]; exact (Box.new _ _ _ (by simp)).alloc _)
  have B3 := Lib.hid (show Box w0 (w.heap.size + 1 + 1 + 1) 30 #[.slice none 0 0] by rw [← hw0]; exact Box.new _ _ _ (by simp))
  have HC := Lib.hid (fluid_CheckColumn _ h l A c w0 (hvv.below hB0) hin hm (hl.below hB0) hlin hlm)
  have HW0 := Lib.hid hw0
  have HB0 := Lib.hid hB0
  have hdef : Hid (pump h l s = if checkColumn h l ≠ 0 then ([], [], checkColumn h l) else if within s.Weight 0 40000 && within s.Volume 1 (sizeUp h h.length) then (if 24 < (plainOf (stays (sizeUp h h.length) (s :: l))).length then ([], [], 8) else (plainOf (stays (sizeUp h h.length) (s :: l)), plainOf (goes (sizeUp h h.length) (s :: l)), 0)) else ([], [], 2)) := rfl
  have q0 := hole_box B0.out
  clear hw0 hB0
  by_cases h0 : checkColumn h l = 0
  case neg =>
    have hp : Hid (pump h l s = ([], [], checkColumn h l)) := by unfold Hid; rw [hdef.out, if_pos h0]
    have hz : (checkColumn h l != 0) = true := by simpa using h0
    clear hdef h0 hS hvv
    rw [hp.out]
    generalize checkColumn h l = ch at *
    unfold slugV
    generalize h.length = nh at *
    generalize l.length = n at *
    go_enter Try.func53, Try.ntmps53
    go_wp2_with fail
    rw [HW0.out]
    go_wp2_with fail
    refine HC.out.mono ?_
    rintro e w1 ⟨rfl, hb1⟩
    have C2 := Lib.hid (B2.out.under hb1)
    have C3 := Lib.hid (B3.out.under hb1)
    have HB1 := Lib.hid (HB0.out.trans (hb1.mono HB0.out.size))
    have x2 : w1.cell? ⟨w.heap.size + 1 + 1, 0, none⟩ = some (.slice none 0 0) := C2.out.cell 0
    have x3 : w1.cell? ⟨w.heap.size + 1 + 1 + 1, 0, none⟩ = some (.slice none 0 0) := C3.out.cell 0
    have f2 := C2.out.frozen 0
    have f3 := C3.out.frozen 0
    clear hb1
    go_wp2_with fail
    refine bodyPost_ret (results_pump rfl _ _ (w.heap.size + 1 + 1) (w.heap.size + 1 + 1 + 1) none none 0 0 0 0 (.int .i64 ch) rfl rfl rfl ?_ ?_) rfl ?_
    · exact ((((C2.out).set_ 0 (.slice none 0 0)).far (by simp) _).cell 0).trans (by simp)
    · exact (((((C3.out).far (by simp) (.slice none 0 0))).set_ 0 (.slice none 0 0)).cell 0).trans (by simp)
    · (try rw [hp.out])
      exact ⟨⟨none, 0, none, 0, rfl, World.ownsRow_nil _ _ _ _, World.ownsRow_nil _ _ _ _⟩, ((HB1.out).setCell (p := ⟨w.heap.size + 1 + 1, 0, none⟩) (by simp; omega) _).setCell (p := ⟨w.heap.size + 1 + 1 + 1, 0, none⟩) (by simp; omega) _⟩
  have gc := (checkColumn_iff h l).1 h0
  have GC := Lib.hid gc
  have hhl := hl
  obtain ⟨b, off, rfl, hbl, hcl⟩ := hl gc.pos
  have HCL := Lib.hid hcl
  rw [h0] at HC
  have HVO := Lib.hid (fun W (hW : Below w0.heap.size w0 W) => fluid_volume _ h W ((hvv.below HB0.out).below hW) gc.hole)
  have hV := (gc.hole.ups h.length (Nat.le_refl _)).2.2.2.2
  have hV0 : 0 ≤ sizeUp h h.length := by omega
  have hV2 := hV.2
  have hd2 : Hid (pump h l s = if within s.Weight 0 40000 && within s.Volume 1 (sizeUp h h.length) then (if 24 < (plainOf (stays (sizeUp h h.length) (s :: l))).length then ([], [], 8) else (plainOf (stays (sizeUp h h.length) (s :: l)), plainOf (goes (sizeUp h h.length) (s :: l)), 0)) else ([], [], 2)) := by unfold Hid; rw [hdef.out, if_neg (by simp [h0])]
  have hHL := Lib.hid (hl.below HB0.out)
  have hfew := gc.few
  have hpos := gc.pos
  clear hdef h0 hS hvv hV
  generalize hVV : sizeUp h h.length = V at *
  clear hVV
  have WI := Lib.hid (fun a b c W => fluid_within a b c W)
  generalize pump h l s = res at *
  obtain ⟨M, hM⟩ : ∃ M, M = w.heap.size + 1 + 1 + 1 := ⟨_, rfl⟩
  unfold slugV
  have HSL := Lib.hid hhl
  clear hhl hcl
  generalize h.length = nh at *
  generalize hn : l.length = n at *
  have HN := Lib.hid hn
  clear hn
  go_enter Try.func53, Try.ntmps53
  go_wp2_with fail
  rw [HW0.out]
  go_wp2_with fail
  refine HC.out.mono ?_
  rintro e w1 ⟨rfl, hb1⟩
  have D0 := Lib.hid (B0.out.under hb1)
  have HVW := Lib.hid (HVO.out w1 hb1)
  have D1 := Lib.hid (B1.out.under hb1)
  have D2 := Lib.hid (B2.out.under hb1)
  have D3 := Lib.hid (B3.out.under hb1)
  have HB1 := Lib.hid (HB0.out.trans (hb1.mono HB0.out.size))
  clear hb1 q0 HC HVO B0 B1 B2 B3
  have q0 := hole_box D0.out
  go_wp2_with fail
  refine HVW.out.mono ?_
  rintro e w2 ⟨rfl, hb2⟩
  obtain ⟨w3, hw3⟩ : ∃ w3, w2.alloc (.cells #[.int .i64 V] 2) = w3 := ⟨_, rfl⟩
  have E1 := Lib.hid (show Box w3 (w.heap.size + 1) 39 #[.int .i64 s.Weight, .int .i64 s.Volume] by rw [← hw3]; exact (D1.out.under hb2).alloc _)
  have E2 := Lib.hid (show Box w3 (w.heap.size + 1 + 1) 30 #[.slice none 0 0] by rw [← hw3]; exact (D2.out.under hb2).alloc _)
  have E3 := Lib.hid (show Box w3 (w.heap.size + 1 + 1 + 1) 30 #[.slice none 0 0] by rw [← hw3]; exact (D3.out.under hb2).alloc _)
  have ER := Lib.hid (show Box w3 w2.heap.size 2 #[.int .i64 V] by rw [← hw3]; exact Box.new _ _ _ rfl)
  have hB2 := HB1.out.trans (hb2.mono HB1.out.size)
  have HB3 := Lib.hid (show Below w.heap.size w w3 by rw [← hw3]; exact hB2.alloc hB2.size _)
  have hlt3 : w.heap.size + 1 + 1 + 1 < w2.heap.size := (D3.out.under hb2).lt
  have hs3 : w3.heap.size = w2.heap.size + 1 := by rw [← hw3]; simp
  have HW3 := Lib.hid hw3
  have HS3 := Lib.hid hs3
  clear hw3 hb2 hs3 hB2 D0 D1 D2 D3 HB1 HW0 HB0 HVW q0
  have y0 : w3.cell? ⟨w.heap.size + 1, 0, none⟩ = some (.int .i64 s.Weight) := E1.out.cell 0
  have y1 : w3.cell? ⟨w.heap.size + 1, 1, none⟩ = some (.int .i64 s.Volume) := E1.out.cell 1
  have y2 : w3.cell? ⟨w2.heap.size, 0, none⟩ = some (.int .i64 V) := ER.out.cell 0
  have y3 : w3.cell? ⟨w.heap.size + 1 + 1, 0, none⟩ = some (.slice none 0 0) := E2.out.cell 0
  have y4 : w3.cell? ⟨w.heap.size + 1 + 1 + 1, 0, none⟩ = some (.slice none 0 0) := E3.out.cell 0
  have f3 := E2.out.frozen 0
  have f4 := E3.out.frozen 0
  go_upto_region 5 with fail
  rw [HW3.out]
  cases hw1 : within s.Weight 0 40000
  · have hp : Hid (res = ([], [], 2)) := by unfold Hid; rw [hd2.out, hw1]; rfl
    go_wp2_with (go_at_call 62; refine (fluid_within _ _ _ _).mono ?_; rintro e w' ⟨rfl, rfl⟩; rw [hw1])
    refine bodyPost_ret (results_pump rfl _ _ (w.heap.size + 1 + 1) (w.heap.size + 1 + 1 + 1) none none 0 0 0 0 (.int .i64 2) rfl rfl rfl ?_ ?_) rfl ?_
    · exact ((((E2.out).set_ 0 (.slice none 0 0)).far (by simp) _).cell 0).trans (by simp)
    · exact (((((E3.out).far (by simp) (.slice none 0 0))).set_ 0 (.slice none 0 0)).cell 0).trans (by simp)
    · (try rw [hp.out])
      exact ⟨⟨none, 0, none, 0, rfl, World.ownsRow_nil _ _ _ _, World.ownsRow_nil _ _ _ _⟩, ((HB3.out).setCell (p := ⟨w.heap.size + 1 + 1, 0, none⟩) (by simp; omega) _).setCell (p := ⟨w.heap.size + 1 + 1 + 1, 0, none⟩) (by simp; omega) _⟩
  cases hw2 : within s.Volume 1 V
  · have hp : Hid (res = ([], [], 2)) := by unfold Hid; rw [hd2.out, hw1, hw2]; rfl
    go_wp2_with (go_at_call 62; refine (fluid_within _ _ _ _).mono ?_; rintro e w' ⟨rfl, rfl⟩; first | rw [hw1] | rw [hw2])
    refine bodyPost_ret (results_pump rfl _ _ (w.heap.size + 1 + 1) (w.heap.size + 1 + 1 + 1) none none 0 0 0 0 (.int .i64 2) rfl rfl rfl ?_ ?_) rfl ?_
    · exact ((((E2.out).set_ 0 (.slice none 0 0)).far (by simp) _).cell 0).trans (by simp)
    · exact (((((E3.out).far (by simp) (.slice none 0 0))).set_ 0 (.slice none 0 0)).cell 0).trans (by simp)
    · (try rw [hp.out])
      exact ⟨⟨none, 0, none, 0, rfl, World.ownsRow_nil _ _ _ _, World.ownsRow_nil _ _ _ _⟩, ((HB3.out).setCell (p := ⟨w.heap.size + 1 + 1, 0, none⟩) (by simp; omega) _).setCell (p := ⟨w.heap.size + 1 + 1 + 1, 0, none⟩) (by simp; omega) _⟩
  have hsv : 1 ≤ s.Volume ∧ s.Volume ≤ V := by simpa [within] using hw2
  have hd3 : Hid (res = if 24 < (plainOf (stays V (s :: l))).length then ([], [], 8) else (plainOf (stays V (s :: l)), plainOf (goes V (s :: l)), 0)) := by unfold Hid; rw [hd2.out, hw1, hw2]; rfl
  clear hd2
  have hvols : ∀ i, i < (s :: l).length → 1 ≤ (slg (s :: l) i).Volume ∧ (slg (s :: l) i).Volume ≤ 5242880000 := fun i hi => by
    cases i with
    | zero => rw [slg_zero]; omega
    | succ i =>
      rw [slg_succ]
      have hi' : i < l.length := by simpa using hi
      have h1 := GC.out.v1 i hi'
      have h3 := heldUp_step l i
      have h4 := heldUp_mono GC.out (k := i + 1) hi'
      have h5 := heldUp_mono GC.out (k := i) (by omega)
      have h6 := (GC.out.hole.ups h.length (Nat.le_refl _)).2.2.2.2.2
      omega
  have HPT := Lib.hid (fun k (hk : k ≤ (s :: l).length) => putTo_room V (s :: l) hV0 (fun i hi => by have := hvols i hi; omega) k hk)
  have HVL := Lib.hid hvols
  have HALL := Lib.hid (putTo_all V (s :: l))
  clear hvols
  obtain ⟨S, hS⟩ : ∃ S, s :: l = S := ⟨_, rfl⟩
  have hS0 : slg S 0 = s := by rw [← hS, slg_zero]
  have hSn : S.length = n + 1 := by rw [← hS, List.length_cons, HN.out]
  have hSs : Hid (∀ k, slg S (k + 1) = slg l k) := fun k => by rw [← hS, slg_succ]
  rw [hS] at HPT HVL HALL hd3
  rw [hSn] at HPT HVL HALL
  clear hS
  have HPP : Hid (∀ k W, k ≤ n → PuSt w w3.heap.size w2.heap.size (w.heap.size + 1 + 1) (w.heap.size + 1 + 1 + 1) V S k W → Calls Try.prog 89 #[.agg #[.int .i64 (slg S k).Weight, .int .i64 (slg S k).Volume], .pointer (some ⟨w2.heap.size, 0, none⟩), .pointer (some ⟨w.heap.size + 1 + 1, 0, none⟩), .pointer (some ⟨w.heap.size + 1 + 1 + 1, 0, none⟩)] W fun e W' => (∃ v, e = .returned v) ∧ PuSt w w3.heap.size w2.heap.size (w.heap.size + 1 + 1) (w.heap.size + 1 + 1 + 1) V S (k + 1) W') := fun k W hk h => by
    have p := HPT.out k (by omega)
    have v := HVL.out k (by omega)
    have hs := HS3.out
    exact pump_put h (by omega) (by omega) (by omega) (by omega) (by omega) (by omega) (by omega) (by omega) (by omega) p.1 (by omega) (by omega) (by omega) (by omega) (by omega)
  have PS0 : Hid (PuSt w w3.heap.size w2.heap.size (w.heap.size + 1 + 1) (w.heap.size + 1 + 1 + 1) V S 0 w3) := ⟨.slice none 0 0, .slice none 0 0, ER.out, E2.out, E3.out, ⟨World.ownsRow_nil _ _ _ _, World.ownsRow_nil _ _ _ _, .inl rfl⟩, HB3.out, Nat.le_refl _⟩
  have HC0 := Lib.hid (HPP.out 0 w3 (Nat.zero_le _) PS0.out)
  rw [hS0] at HC0
  have HSL1 : Hid ((putTo V S (n + 1)).2.1.length = n + 1 ∧ (putTo V S (n + 1)).2.2.length = n + 1) := (HPT.out (n + 1) (Nat.le_refl _)).2.2
  rw [HALL.out.1, HALL.out.2] at HSL1
  have HBASE : Hid (w.heap.size + 1 + 1 + 1 < w3.heap.size) := by have := HS3.out; unfold Hid; omega
  clear hSn hS0
  go_wp2_with (first | (go_at_call 62; refine (fluid_within _ _ _ _).mono ?_; rintro e w' ⟨rfl, rfl⟩; first | rw [hw1] | rw [hw2]))
  refine HC0.out.mono ?_
  rintro e w4 ⟨⟨v1, rfl⟩, PS1⟩
  have PK1 := Lib.hid PS1
  clear PS1 y0 y1 y2 y3 y4 f3 f4 E1 E2 E3 ER HW3 PS0 HC0 HPT HVL hw1 hw2 WI
  go_wp2_with fail
  go_loopw [38] (fun s38 wr => ∃ k : Nat, k ≤ n ∧ s38 = .int .i64 k ∧ Hid (PuSt w w3.heap.size w2.heap.size (w.heap.size + 1 + 1) (w.heap.size + 1 + 1 + 1) V S (k + 1) wr)) (fun s38 _ => n - (intOf s38).toNat)
  case atStart => exact ⟨0, Nat.zero_le _, rfl, PK1.out⟩
  case round =>
    obtain ⟨k, hk, rfl, PK⟩ := hrel
    by_cases hlt : k < n
    · have BW : Below w.heap.size w wr := by obtain ⟨_, _, _, _, _, _, h, _⟩ := PK.out; exact h
      obtain ⟨c0, c1⟩ := HCL.out k hlt
      have d0 := oldCell BW hbl c0
      have d1 := oldCell BW hbl c1
      have hbw : b < wr.heap.size := by have := BW.size; omega
      have t0 : decide (k < n) = true := decide_eq_true hlt
      have b1 : (k : Int) < (n : Int) := by omega
      have b2 : (0 : Int) ≤ (k : Int) := by omega
      have HCK := Lib.hid (fun W (hW : Below wr.heap.size wr W) => HPP.out (k + 1) W (by omega) (PK.out.under hW))
      rw [hSs.out] at HCK
      clear c0 c1 BW
      generalize slg l k = s at *
      go_wp2_with fail
      refine (HCK.out _ ((Below.refl _ _).alloc (Nat.le_refl _) _)).mono ?_
      rintro e w5 ⟨⟨v5, rfl⟩, PS5⟩
      have PK5 := Lib.hid PS5
      clear PS5
      go_wp2_with fail
      go_roundw
      case rel => exact ⟨k + 1, hlt, by go_num, PK5.out⟩
      case measure => simp [intOf]; omega
    · obtain rfl : k = n := by omega
      have t0 : decide (k < k) = false := decide_eq_false hlt
      obtain ⟨vn, vo, c1, c2, c3, hr, hb, hs⟩ := PK.out
      rw [HALL.out.1, HALL.out.2] at hr
      obtain ⟨A1, a1, rfl, _, _⟩ := own_form hr.o1
      obtain ⟨A2, a2, rfl, _, _⟩ := own_form hr.o2
      generalize stays V S = st at *
      generalize goes V S = gs at *
      have OO := Lib.hid hr
      have HP1 := Lib.hid (fun W (hW : Below wr.heap.size wr W) => fluid_Plain st A1 a1 W (own_slugs (own_under OO.out.o1 hW)) (by have := HSL1.out.1; omega))
      have HP2 := Lib.hid (fun W (hW : Below wr.heap.size wr W) => fluid_Plain gs A2 a2 W (own_slugs (own_under OO.out.o2 hW)) (by have := HSL1.out.2; omega))
      have C2 := Lib.hid c2
      have C3 := Lib.hid c3
      have HBW := Lib.hid hb
      have HSW := Lib.hid hs
      clear hr c1 c2 c3 hb hs PK HPP PK1 HSL1 HALL
      go_upto_region 14 with fail
      have HD := Lib.hid (Below.refl wr.heap.size wr).drew
      go_cut [] (fun wx => ∃ X1 x1 X2 x2, Hid (PuEnd w w3.heap.size (w.heap.size + 1 + 1) (w.heap.size + 1 + 1 + 1) (.slice X1 (plainOf st).length x1) (.slice X2 (plainOf gs).length x2) (.slice X1 (plainOf st).length x1) (.slice X2 (plainOf gs).length x2) (plainOf st) (plainOf gs) wx))
      case first =>
        have SS : (fun w' : World => w'.cell? ⟨w.heap.size + 1 + 1, 0, none⟩ = some (.slice A1 st.length a1) ∧ w'.cell? ⟨w.heap.size + 1 + 1 + 1, 0, none⟩ = some (.slice A2 gs.length a2)) wr.drew := ⟨C2.out.cell 0, C3.out.cell 0⟩
        refine AnyMid.begin (q := 4) (S := (fun (f : Bool) (w' : World) => f = false → w'.cell? ⟨w.heap.size + 1 + 1, 0, none⟩ = some (.slice A1 st.length a1) ∧ w'.cell? ⟨w.heap.size + 1 + 1 + 1, 0, none⟩ = some (.slice A2 gs.length a2))) (Z := fun i => i == 5) mixed ?_
        refine AnyMid.take (fun w' : World => w'.cell? ⟨w.heap.size + 1 + 1, 0, none⟩ = some (.slice A1 st.length a1) ∧ w'.cell? ⟨w.heap.size + 1 + 1 + 1, 0, none⟩ = some (.slice A2 gs.length a2)) (i := 0) (v := .slice A1 st.length a1) [5] 6 (by simp) (fun _ h => h rfl) (.inl (by decide +kernel)) (fun _ => SS) rfl (by decide +kernel) (fun _ _ _ h => h) (Or.inl ⟨by simp [Region.wanted], fun w' hw' => by (obtain ⟨s0, s1⟩ := hw'; go_simp)⟩) ?_
        refine AnyMid.take (fun w' : World => w'.cell? ⟨w.heap.size + 1 + 1, 0, none⟩ = some (.slice A1 st.length a1) ∧ w'.cell? ⟨w.heap.size + 1 + 1 + 1, 0, none⟩ = some (.slice A2 gs.length a2)) (i := 2) (v := .slice A2 gs.length a2) [5] 6 (by simp) (fun _ h => h rfl) (.inl (by decide +kernel)) (fun _ => SS) rfl (by decide +kernel) (fun _ _ _ h => h) (Or.inl ⟨by simp [Region.wanted], fun w' hw' => by (obtain ⟨s0, s1⟩ := hw'; go_simp)⟩) ?_
        refine AnyMid.only (i := 1) (by decide +kernel) rfl rfl (fun K hK => ?_)
        go_wp2_with fail
        refine (HP1.out _ HD.out).mono ?_
        rintro e W1 ⟨⟨X1, x1, rfl, ho1⟩, hb1⟩
        refine hK _ _ (fun _ _ => ⟨(C2.out.drew.under hb1).cell 0, (C3.out.drew.under hb1).cell 0⟩) ?_
        clear hK K
        refine AnyMid.only (i := 3) (by decide +kernel) rfl rfl (fun K hK => ?_)
        go_wp2_with fail
        refine (HP2.out _ (HD.out.trans (hb1.mono HD.out.size))).mono ?_
        rintro e W2 ⟨⟨X2, x2, rfl, ho2⟩, hb2⟩
        refine hK _ _ (fun _ _ => ⟨((C2.out.drew.under hb1).under hb2).cell 0, ((C3.out.drew.under hb1).under hb2).cell 0⟩) ?_
        clear hK K
        have hd1 := HBW.out.trans (HD.out.mono HBW.out.size)
        have hd2 := hd1.trans (hb1.mono hd1.size)
        have PE := Lib.hid (show PuEnd w w3.heap.size (w.heap.size + 1 + 1) (w.heap.size + 1 + 1 + 1) (.slice X1 (plainOf st).length x1) (.slice X2 (plainOf gs).length x2) (.slice A1 st.length a1) (.slice A2 gs.length a2) (plainOf st) (plainOf gs) W2 from ⟨(C2.out.drew.under hb1).under hb2, (C3.out.drew.under hb1).under hb2, own_le (own_under ho1 hb2) (Nat.le_trans HSW.out HD.out.size), own_le ho2 (Nat.le_trans HSW.out (Nat.le_trans HD.out.size hb1.size)), hd2.trans (hb2.mono hd2.size), by omega, by have := HBASE.out; omega, HBASE.out, by omega, by omega⟩)
        clear hd1 hd2 hb1 hb2 ho1 ho2
        have j0 := PE.out.n1.frozen 0
        have j1 := PE.out.n2.frozen 0
        have j2 := PE.out.n1.cell 0
        have j3 := PE.out.n2.cell 0
        simp only [List.getElem?_toArray, List.getElem?_cons_zero] at j2 j3
        refine AnyMid.only (i := 4) (by decide +kernel) rfl rfl (fun K hK => ?_)
        go_wp2_with fail
        refine hK _ _ (fun _ h => (by cases h)) ?_
        clear hK K
        refine AnyMid.only (i := 5) (by decide +kernel) rfl rfl (fun K hK => ?_)
        go_wp2_with fail
        refine hK _ _ (fun h => (by cases h)) ?_
        clear hK K
        refine AnyMid.done (by decide +kernel) ?_
        go_wp2_with fail
        go_meet
        exact ⟨_, _, _, _, (PE.out.put1 _).put2 _⟩
      case rest =>
        obtain ⟨X1, x1, X2, x2, PE⟩ := hcut
        have j0 := PE.out.n1.frozen 0
        have j1 := PE.out.n2.frozen 0
        have j2 := PE.out.n1.cell 0
        have j3 := PE.out.n2.cell 0
        simp only [List.getElem?_toArray, List.getElem?_cons_zero] at j2 j3
        clear HP1 HP2 OO C2 C3 HBW HSW HD
        generalize (plainOf st) = p1 at *
        generalize (plainOf gs) = p2 at *
        by_cases hf : 24 < p1.length
        · have hp : Hid (res = ([], [], 8)) := by unfold Hid; rw [hd3.out, if_pos hf]
          have t1 : decide ((24 : Int) < (p1.length : Int)) = true := decide_eq_true (by omega)
          have t2 : decide (24 < p1.length) = true := decide_eq_true hf
          clear hd3 hf
          go_wp2_with fail
          refine bodyPost_ret (results_pump rfl _ _ (w.heap.size + 1 + 1) (w.heap.size + 1 + 1 + 1) none none 0 0 0 0 (.int .i64 8) rfl rfl rfl ?_ ?_) rfl ?_
          · exact (((PE.out.put1 _).put2 _).n1.cell 0).trans (by simp)
          · exact (((PE.out.put1 _).put2 _).n2.cell 0).trans (by simp)
          · (try rw [hp.out])
            exact ⟨⟨none, 0, none, 0, rfl, World.ownsRow_nil _ _ _ _, World.ownsRow_nil _ _ _ _⟩, ((PE.out.put1 _).put2 _).b⟩
        · have hp : Hid (res = (p1, p2, 0)) := by unfold Hid; rw [hd3.out, if_neg hf]
          have t1 : decide ((24 : Int) < (p1.length : Int)) = false := decide_eq_false (by omega)
          have t2 : decide (24 < p1.length) = false := decide_eq_false hf
          clear hd3 hf
          go_upto_region 17 with fail
          go_region
          all_goals
            go_wp2_with fail
            refine bodyPost_ret (results_pump rfl _ _ (w.heap.size + 1 + 1) (w.heap.size + 1 + 1 + 1) X1 X2 p1.length x1 p2.length x2 (.int .i64 0) rfl rfl rfl ?_ ?_) rfl ?_
            · exact (((PE.out.put1 _).put2 _).drew.n1.cell 0).trans (by simp)
            · exact (((PE.out.put1 _).put2 _).drew.n2.cell 0).trans (by simp)
            · (try rw [hp.out])
              have hbs := HBASE.out
              exact ⟨⟨X1, x1, X2, x2, rfl, own_le ((PE.out.put1 _).put2 _).drew.o1 (by omega), own_le ((PE.out.put1 _).put2 _).drew.o2 (by omega)⟩, ((PE.out.put1 _).put2 _).drew.b⟩

end Go.Proofs.Ytgcfplkfclapiaa

/- The equivalent weight in the hole that the laws of fluids show awake. -/
namespace Go.Proofs.Ytgcfplkfclapiaa
open Go.RowKit Go.Shelf Mpl

theorem results_rngK {fn : Func} {p q : Tmp} (h : fn.results = #[.cell p 34, .tmp q]) (tmps : Array Value) (w : World) (g : Nat) (x y : Int) (v : Value)
    (hp : tmps.getD p undef = .pointer (some ⟨g, 0, none⟩)) (hq : tmps.getD q undef = v) (h1 : Box w g 34 #[.int .i64 x, .int .i64 y]) :
    (results fn tmps).run Try.prog w = .ok (.tuple #[.agg #[.int .i64 x, .int .i64 y], v]) w := by
  have q0 := h1.cell 0
  have q1 := h1.cell 1
  simp only [List.getElem?_toArray, List.getElem?_cons_zero, List.getElem?_cons_succ] at q0 q1
  simp only [results, h]
  rw [Array.getD_eq_getD_getElem?] at hp hq
  simp [Sem.run_bind, Result.andThen]
  rw [hp, hq]
  simp [go_sem, q0, q1]
theorem hole_cellK {w : World} {g t : Nat} {v : Value} (h : Box w g t #[v]) : w.cell? ⟨g, 0, none⟩ = some v := h.cell 0
theorem rng_cellsK {W : World} {g : Nat} {a b : Value} (h : Box W g 34 #[a, b]) : W.cell? ⟨g, 0, none⟩ = some a ∧ W.cell? ⟨g, 1, none⟩ = some b := ⟨h.cell 0, h.cell 1⟩

theorem shown_press1a : (press shownHole oneSlug 0 0).1.Lo = 33600000 ∧ (press shownHole oneSlug 0 0).1.Hi = 33600000 ∧ (press shownHole oneSlug 0 0).2 = 0 := by decide +kernel
theorem shown_press1 : press shownHole oneSlug 0 0 = (⟨33600000, 33600000⟩, 0) := by
  obtain ⟨h1, h2, h3⟩ := shown_press1a
  generalize press shownHole oneSlug 0 0 = p at *
  obtain ⟨⟨a, b⟩, c⟩ := p
  simp_all
theorem shown_at0a : (At (heightOf shownHole) 0).Lo = 0 ∧ (At (heightOf shownHole) 0).Hi = 0 := by decide +kernel
theorem shown_rise : riseUp shownHole shownHole.length = 2800 := by decide +kernel
theorem shown_check : checkHole shownHole = 0 := by decide +kernel
theorem shown_good : GoodHole shownHole := (checkHole_iff _).1 shown_check

/-- what stands still in the walk of Equivalent -/
structure EqSt (w W : World) (vh : Value) : Prop where
  h : Box W w.heap.size 25 #[vh]
  r : Box W (w.heap.size + 1) 34 #[.int .i64 0, .int .i64 0]
  low : Below w.heap.size w W
theorem EqSt.under {w W W' : World} {vh : Value} (h : EqSt w W vh) (hb : Below W.heap.size W W') : EqSt w W' vh := ⟨h.h.under hb, h.r.under hb, h.low.trans (hb.mono h.low.size)⟩

set_option maxHeartbeats 8000000 in
set_option maxRecDepth 100000 in
theorem law03_equiv (AH : Option Addr) (cH : Nat) (A : Option Addr) (c : Nat) (w : World) (hv : HoleV w w.heap.size (.agg #[.slice AH 2 cH]) shownHole) (hl : Slugs w w.heap.size A oneSlug) (hc : 1 ≤ c) (hc2 : c ≤ maxLen) :
    Calls Try.prog 60 #[.agg #[.slice AH 2 cH], .slice A 1 c, .int .i64 0, .int .i64 0] w fun e w' => e = .returned (.tuple #[.agg #[.int .i64 12000, .int .i64 12000], .int .i64 0]) ∧ Below w.heap.size w w' := by
  have HPR := Lib.hid (fun W (hW : Below w.heap.size w W) => (by have := fluid_Press _ shownHole oneSlug A c 0 0 W (hv.below hW) shown_in (by decide) (hl.up hW hW.size) one_in hc hc2; rw [shown_press1] at this; exact this :
    Calls Try.prog 21 #[.agg #[.slice AH 2 cH], .slice A 1 c, .int .i64 0, .int .i64 0] W fun e w' => e = .returned (.tuple #[.agg #[.int .i64 33600000, .int .i64 33600000], .int .i64 0]) ∧ Below W.heap.size W w'))
  have HHE := Lib.hid (fun W (hW : Below w.heap.size w W) => fluid_Height _ shownHole W (hv.below hW) shown_in (by decide))
  have HAT := Lib.hid (fun v W hk => (by have := earth_At (heightOf shownHole) v 0 W hk; rw [shown_at0a.1, shown_at0a.2] at this; exact this :
    Calls Try.prog 36 #[v, .int .i64 0] W fun e w' => e = .returned (.agg #[.int .i64 0, .int .i64 0]) ∧ Below W.heap.size W w'))
  have HRI := Lib.hid (fun W (hW : Below w.heap.size w W) => (by have := fluid_rise _ shownHole W (hv.below hW) shown_good; rw [shown_rise] at this; exact this :
    Calls Try.prog 65 #[.agg #[.slice AH 2 cH]] W fun e w' => e = .returned (.int .i64 2800) ∧ Below W.heap.size W w'))
  have HUP := Lib.hid (fun W => (by have := fluid_up 33600000 2800 W (by omega) (by omega) (by omega) (by omega); rw [show upDiv 33600000 2800 = 12000 by decide] at this; exact this :
    Calls Try.prog 82 #[.int .i64 33600000, .int .i64 2800] W fun e w' => e = .returned (.int .i64 12000) ∧ W = w'))
  clear hv hl hc hc2
  obtain ⟨w0, hw0⟩ : ∃ w0, (w.alloc (.cells #[.slice AH 2 cH] 25)).alloc (.cells #[.int .i64 0, .int .i64 0] 34) = w0 := ⟨_, rfl⟩
  have S0 := Lib.hid (show EqSt w w0 (.slice AH 2 cH) from ⟨by rw [← hw0]; exact (Box.new w _ _ rfl).alloc _, by rw [← hw0]; exact Box.new _ _ _ (by simp), by rw [← hw0]; exact (by repeat (first | exact Below.refl _ _ | assumption | refine Below.setCell ?_ (by first | (simp; done) | (simp; omega)) _ | refine belowDrewN ?_ _ | refine Below.drew ?_ | refine Below.alloc ?_ (by first | (simp; done) | (simp; omega)) _))⟩)
  have HW0 := Lib.hid hw0
  clear hw0
  have q0 := hole_cellK S0.out.h
  go_enter Try.func60, Try.ntmps60
  go_upto_region 1 with fail
  rw [HW0.out]
  go_wp2_with fail
  refine (HPR.out _ S0.out.low).mono ?_
  rintro e w1 ⟨rfl, hb1⟩
  have S1 := Lib.hid (S0.out.under hb1)
  clear hb1 q0
  obtain ⟨w2, hw2⟩ : ∃ w2, w1.alloc (.cells #[.int .i64 33600000, .int .i64 33600000] 34) = w2 := ⟨_, rfl⟩
  have hb2 : Below w1.heap.size w1 w2 := by rw [← hw2]; exact (Below.refl _ _).alloc (Nat.le_refl _) _
  have P2 := Lib.hid (show Box w2 w1.heap.size 34 #[.int .i64 33600000, .int .i64 33600000] by rw [← hw2]; exact Box.new _ _ _ rfl)
  have S2 := Lib.hid (S1.out.under hb2)
  have HW2 := Lib.hid hw2
  clear hw2 hb2
  have q0 := hole_cellK S2.out.h
  go_upto_region 2 with fail
  rw [HW2.out]
  go_wp2_with fail
  refine (HHE.out _ S2.out.low).mono ?_
  rintro e w3 ⟨⟨vl, rfl, hvl⟩, hb3⟩
  have VL := Lib.hid hvl
  have S3 := Lib.hid (S2.out.under hb3)
  have P3 := Lib.hid (P2.out.under hb3)
  clear hb3 hvl q0
  go_wp2_with fail
  refine (HAT.out _ _ VL.out).mono ?_
  rintro e w4 ⟨rfl, hb4⟩
  have S4 := Lib.hid (S3.out.under hb4)
  have P4 := Lib.hid (P3.out.under hb4)
  clear hb4
  obtain ⟨w5, hw5⟩ : ∃ w5, w4.alloc (.cells #[.int .i64 0, .int .i64 0] 34) = w5 := ⟨_, rfl⟩
  have hb5 : Below w4.heap.size w4 w5 := by rw [← hw5]; exact (Below.refl _ _).alloc (Nat.le_refl _) _
  have X5 := Lib.hid (show Box w5 w4.heap.size 34 #[.int .i64 0, .int .i64 0] by rw [← hw5]; exact Box.new _ _ _ rfl)
  have S5 := Lib.hid (S4.out.under hb5)
  have P5 := Lib.hid (P4.out.under hb5)
  have HW5 := Lib.hid hw5
  clear hw5 hb5
  go_upto_region 5 with fail
  rw [HW5.out]
  have HSS := Lib.hid (fun (W : World) (h : EqSt w W (.slice AH 2 cH)) (x : Box W w4.heap.size 34 #[.int .i64 0, .int .i64 0]) => (⟨hole_cellK h.h, rng_cellsK x⟩ : W.cell? ⟨w.heap.size, 0, none⟩ = some (.slice AH 2 cH) ∧ W.cell? ⟨w4.heap.size, 0, none⟩ = some (.int .i64 0) ∧ W.cell? ⟨w4.heap.size, 1, none⟩ = some (.int .i64 0)))
  have S6 : Hid (EqSt w w5.drew (.slice AH 2 cH)) := S5.out.under (Below.refl _ _).drew
  have X6 : Hid (Box w5.drew w4.heap.size 34 #[.int .i64 0, .int .i64 0]) := X5.out.drew
  have P6 : Hid (Box w5.drew w1.heap.size 34 #[.int .i64 33600000, .int .i64 33600000]) := P5.out.drew
  have hw : IntKind.i64.wrap 2800 = 2800 := IntWalk.i64_in _ (by omega)
  go_region_held3 (fun w' => w'.cell? ⟨w.heap.size, 0, none⟩ = some (.slice AH 2 cH) ∧ w'.cell? ⟨w4.heap.size, 0, none⟩ = some (.int .i64 0) ∧ w'.cell? ⟨w4.heap.size, 1, none⟩ = some (.int .i64 0))
    (first | exact HSS.out _ S6.out X6.out | exact HSS.out _ S7.out X7.out | exact HSS.out _ S8.out X8.out)
    (first
      | (go_at_call 65; (with_reducible refine (HRI.out _ S7.out.low).mono ?_); rintro e w8 ⟨rfl, hb8⟩; have S8 := Lib.hid (S7.out.under hb8); have X8 := Lib.hid (X7.out.under hb8); have P8 := Lib.hid (P7.out.under hb8); clear hb8)
      | (go_at_call 65; (with_reducible refine (HRI.out _ S6.out.low).mono ?_); rintro e w7 ⟨rfl, hb7⟩; have S7 := Lib.hid (S6.out.under hb7); have X7 := Lib.hid (X6.out.under hb7); have P7 := Lib.hid (P6.out.under hb7); clear hb7)
      | fail)
  go_wp2_with fail
  have hw2 : IntKind.i64.wrap 12000 = 12000 := IntWalk.i64_in _ (by omega)
  have hne := S1.out.r.lt
  have P9 := Lib.hid (rng_cellsK ((P8.out.far (p := ⟨w.heap.size + 1, 0, none⟩) (by simp; omega) (.int .i64 12000)).far (p := ⟨w.heap.size + 1, 1, none⟩) (by simp; omega) (.int .i64 12000)))
  have hz : ((2800 : Int) == 0) = false := by decide
  have f0 := S8.out.r.frozen 0
  have f1 := S8.out.r.frozen 1
  obtain ⟨r0, r1⟩ := rng_cellsK S8.out.r
  obtain ⟨p0, p1⟩ := rng_cellsK P8.out
  have BX := Lib.hid (show Box ((w8.setCell ⟨w.heap.size + 1, 0, none⟩ (.int .i64 12000)).setCell ⟨w.heap.size + 1, 1, none⟩ (.int .i64 12000)).drew (w.heap.size + 1) 34 #[.int .i64 12000, .int .i64 12000] by
    have h := (S8.out.r.set_ 0 (.int .i64 12000)).set_ 1 (.int .i64 12000)
    simpa using h.drew)
  have BL := Lib.hid (((S8.out.low.setCell (p := ⟨w.heap.size + 1, 0, none⟩) (by simp) (.int .i64 12000)).setCell (p := ⟨w.heap.size + 1, 1, none⟩) (by simp) (.int .i64 12000)).drew)
  go_region_held3 (fun w' => w'.cell? ⟨w1.heap.size, 0, none⟩ = some (.int .i64 33600000) ∧ w'.cell? ⟨w1.heap.size, 1, none⟩ = some (.int .i64 33600000))
    (first | exact P9.out | go_keep)
    (first
      | (go_at_call 82; (with_reducible refine (HUP.out _).mono ?_); rintro e w9 ⟨rfl, rfl⟩)
      | fail)
  all_goals
    go_wp2_with fail
    exact bodyPost_ret (results_rngK rfl _ _ (w.heap.size + 1) 12000 12000 (.int .i64 0) rfl rfl BX.out) rfl ⟨rfl, BL.out⟩

end Go.Proofs.Ytgcfplkfclapiaa
