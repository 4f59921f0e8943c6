/- Several texts in one: Held2, Held3, FPump, FPump2, FRefHole2, FRefCol, FRefPlain, FRefPump, LawPumps. -/
import Derived.Test.YtgcfplkfclapiaaHeld
import Derived.Test.YtgcfplkfclapiaaFPlain
import Derived.Test.YtgcfplkfclapiaaFVolume
import Derived.Deep.AppendLies
import Derived.Deep.DeepCutAuto
import Derived.Test.YtgcfplkfclapiaaFGood
import Derived.Test.YtgcfplkfclapiaaFRefHole
import Derived.Test.YtgcfplkfclapiaaFWhere
import Derived.BigRegion
import Derived.Test.YtgcfplkfclapiaaFColumn
import Derived.Deep.RegionHeld3
import Derived.Test.YtgcfplkfclapiaaFHeld
import Derived.Test.YtgcfplkfclapiaaFOpen
import Derived.Test.YtgcfplkfclapiaaFAwake
import Derived.Test.YtgcfplkfclapiaaFKitCol
/- A region that draws its order, whose last operations write what the region reads: what holds between the operations need not hold behind those. -/
namespace Go.Proofs.Ytgcfplkfclapiaa
open Go.RowKit

section
variable {P : Program} {ops : Array Oper} {Q : Exit → Act → World → Prop} {md : Region.Mode} {S : World → Prop} {Z : Nat → Bool}

/-- any order from here on; S holds behind each operation but those of Z -/
def AnyLate (P : Program) (md : Region.Mode) (ops : Array Oper) (Q : Exit → Act → World → Prop) (S : World → Prop) (Z : Nat → Bool) : Nat → Array Bool → Act → World → Prop
  | 0, b, a, w => Region.ready md ops b = [] ∧ Q .normal a w
  | m + 1, b, a, w => (Region.ready md ops b = [] → Q .normal a w) ∧ ∀ i ∈ Region.ready md ops b, wpOp P ops Q i (fun a' w' => (Z i = false → S w') ∧ AnyLate P md ops Q S Z m (b.setIfInBounds i true) a' w') a w

theorem AnyLate.any : ∀ {m : Nat} {b : Array Bool} {a : Act} {w : World}, AnyLate P md ops Q S Z m b a w → wpAny P md ops Q m b a w
  | 0, _, _, _, h => h
  | _ + 1, _, _, _, h => ⟨h.1, fun i hi => wpOp_mono (fun _ _ k => AnyLate.any k.2) (h.2 i hi)⟩

theorem AnyLate.begin {id : Nat} {a : Act} {w : World} (hm : P.follows .mixedOrders = true) (h : AnyLate P .any ops Q S Z ops.size (Array.replicate ops.size false) a w.drew) : (Code.region id ops true).wp P Q a w :=
  wp_region_any hm h.any

/-- what is done has all done that it waits for -/
def Closed (md : Region.Mode) (ops : Array Oper) (b : Array Bool) : Prop := ∀ j o, ops[j]? = some o → b.getD j true = true → ∀ e ∈ o.after, Region.binds md e = true → b.getD e.on true = true
def closedB (md : Region.Mode) (ops : Array Oper) (b : Array Bool) : Bool := (List.range ops.size).all fun j => match ops[j]? with | some o => !(b.getD j true) || o.after.all (fun e => !(Region.binds md e) || b.getD e.on true) | none => true
theorem closed_of {b : Array Bool} (h : closedB md ops b = true) : Closed md ops b := fun j o ho hj e he hb => by
  unfold closedB at h
  rw [List.all_eq_true] at h
  have hlt : j < ops.size := (Array.getElem?_eq_some_iff.1 ho).1
  have := h j (List.mem_range.2 hlt)
  simp only [ho, hj, Bool.not_true, Bool.false_or, Array.all_eq_true'] at this
  have h2 := this e he
  rw [hb] at h2
  simpa using h2
theorem ready_after {b : Array Bool} {z : Nat} (hz : z ∈ Region.ready md ops b) : ∃ o, ops[z]? = some o ∧ ∀ e ∈ o.after, Region.binds md e = true → b.getD e.on true = true := by
  obtain ⟨_, o, ho, hall⟩ := mem_ready.1 hz
  refine ⟨o, ho, fun e he hb => ?_⟩
  have := hall e he hb
  rcases Nat.lt_or_ge e.on b.size with hl | hl
  · simp [hl] at this ⊢
    exact this
  · simp [hl]
theorem Closed.set {b : Array Bool} {j : Nat} (h : Closed md ops b) (hj : j ∈ Region.ready md ops b) : Closed md ops (b.setIfInBounds j true) := fun i o ho hi e he hb => by
  have up : ∀ k, b.getD k true = true → (b.setIfInBounds j true).getD k true = true := fun k hk => by
    by_cases hjk : j = k
    · subst hjk
      rcases Nat.lt_or_ge j b.size with hl | hl
      · simp [hl]
      · simp [hl]
    · rwa [getD_set_ne true hjk]
  by_cases hij : j = i
  · subst hij
    obtain ⟨o', ho', h2⟩ := ready_after hj
    rw [ho] at ho'
    injection ho' with ho'
    subst ho'
    exact up _ (h2 e he hb)
  · rw [getD_set_ne true hij] at hi
    exact up _ (h i o ho hi e he hb)
/-- number z waits for number i, by n others at most -/
def waitsN (md : Region.Mode) (ops : Array Oper) : Nat → Nat → Nat → Bool
  | 0, z, i => match ops[z]? with | some o => o.after.any (fun e => Region.binds md e && e.on == i) | none => false
  | n + 1, z, i => match ops[z]? with | some o => o.after.any (fun e => Region.binds md e && (e.on == i || waitsN md ops n e.on i)) | none => false
theorem done_waits {b : Array Bool} (hc : Closed md ops b) (n : Nat) : ∀ z i, b.getD z true = true → waitsN md ops n z i = true → b.getD i true = true := by
  induction n with
  | zero =>
    intro z i hz h
    unfold waitsN at h
    cases ho : ops[z]? with
    | none => simp [ho] at h
    | some o =>
      simp only [ho, Array.any_eq_true'] at h
      obtain ⟨e, he, h⟩ := h
      simp only [Bool.and_eq_true, beq_iff_eq] at h
      rw [← h.2]
      exact hc z o ho hz e he h.1
  | succ n ih =>
    intro z i hz h
    unfold waitsN at h
    cases ho : ops[z]? with
    | none => simp [ho] at h
    | some o =>
      simp only [ho, Array.any_eq_true'] at h
      obtain ⟨e, he, h⟩ := h
      simp only [Bool.and_eq_true, Bool.or_eq_true, beq_iff_eq] at h
      have hd := hc z o ho hz e he h.1
      rcases h.2 with h2 | h2
      · rw [← h2]; exact hd
      · exact ih _ _ hd h2
theorem ready_waits {b : Array Bool} (hc : Closed md ops b) (n : Nat) {z i : Nat} (hz : z ∈ Region.ready md ops b) (h : waitsN md ops n z i = true) : b.getD i true = true := by
  obtain ⟨o, ho, ha⟩ := ready_after hz
  cases n with
  | zero =>
    unfold waitsN at h
    simp only [ho, Array.any_eq_true'] at h
    obtain ⟨e, he, h⟩ := h
    simp only [Bool.and_eq_true, beq_iff_eq] at h
    rw [← h.2]
    exact ha e he h.1
  | succ n =>
    unfold waitsN at h
    simp only [ho, Array.any_eq_true'] at h
    obtain ⟨e, he, h⟩ := h
    simp only [Bool.and_eq_true, Bool.or_eq_true, beq_iff_eq] at h
    rcases h.2 with h2 | h2
    · rw [← h2]; exact ha e he h.1
    · exact done_waits hc n _ _ (ha e he h.1) h2

theorem AnyLate.first {i : Nat} {o : Oper} {v : Value} (ho : ops[i]? = some o) (hs : ∀ (j : Nat) (o : Oper) cs d, ops[j]? = some o → o.op ≠ .select cs d) (hQ : ∀ c a w, Q (.panic c) (a.put o.dst v) w → Q (.panic c) a w) {nf : Nat} (hw : ∀ z, Z z = true → waitsN md ops nf z i = true) :
    ∀ (m : Nat) (b : Array Bool) (a : Act) (w : World), Closed md ops b → (∀ j oj, ops[j]? = some oj → j ≠ i → b.getD j true = false → (∀ e ∈ oj.after, Region.binds md e = true → e.on ≠ i) → o.apart ops oj = true) →
      i ∈ Region.ready md ops b → YieldsIf P ops S o v a → S w → AnyLate P md ops Q S Z m (b.setIfInBounds i true) (a.put o.dst v) w → AnyLate P md ops Q S Z (m + 1) b a w
  | m, b, a, w, hc, hf, hr, hy, hS, H => by
    refine ⟨fun h => (by rw [h] at hr; cases hr), fun j hj => ?_⟩
    have hib : b.getD i true = false := (mem_ready.1 hr).1
    by_cases hji : j = i
    · subst hji
      exact hy.wpOp ho hS ⟨fun _ => hS, H⟩
    · have hjr := ready_mono hj hji
      have hjz : Z j = false := by
        cases e : Z j with
        | false => rfl
        | true => rw [ready_waits hc nf hj (hw j e)] at hib; cases hib
      cases m with
      | zero => rw [H.1] at hjr; cases hjr
      | succ m =>
        obtain ⟨hjb, oj, hoj, hall⟩ := mem_ready.1 hj
        have hno : ∀ e ∈ oj.after, Region.binds md e = true → e.on ≠ i := fun e he hb heq => by
          have h1 := hall e he hb
          rw [heq] at h1
          rcases Nat.lt_or_ge i b.size with hl | hl
          · simp [hl] at h1 hib
            rw [h1] at hib
            cases hib
          · simp [Array.getElem?_eq_none hl] at hib
        have hput := wpOp_putIf hoj (hf j oj hoj hji hjb hno) (fun cs d => hs i o cs d ho) (fun cs d => hs j oj cs d hoj) hQ hy (H.2 j hjr)
        refine wpOp_mono (fun a' w' k => ⟨fun _ => k.2.1 hjz, AnyLate.first ho hs hQ hw m _ a' w' (hc.set hj) (fun l ol hl hli hlb hn => hf l ol hl hli ?_ hn) (ready_mono hr (Ne.symm hji)) k.1 (k.2.1 hjz) ?_⟩) hput
        · by_cases hjl : j = l
          · subst hjl; exact hjb
          · rwa [getD_set_ne true hjl] at hlb
        · rw [Array.setIfInBounds_comm _ _ hji]
          exact k.2.2

theorem AnyLate.take {i : Nat} {o : Oper} {v : Value} {m : Nat} {b : Array Bool} {a : Act} {w : World} (zs : List Nat) (nf : Nat) (hz : ∀ z, Z z = true → z ∈ zs) (ho : ops[i]? = some o) (hs : Region.noSelect ops = true) (hf : Region.free md ops b i = true) (hr : (Region.ready md ops b).contains i = true) (hw : zs.all (fun z => waitsN md ops nf z i) = true) (hc : closedB md ops b = true)
    (hQ : ∀ c a w, Q (.panic c) (a.put o.dst v) w → Q (.panic c) a w) (hS : S w) (hy : YieldsIf P ops S o v a) (h : AnyLate P md ops Q S Z m (b.setIfInBounds i true) (a.put o.dst v) w) : AnyLate P md ops Q S Z (m + 1) b a w :=
  AnyLate.first ho (Region.noSelect_spec hs) hQ (fun z h => List.all_eq_true.1 hw z (hz z h)) m b a w (closed_of hc) (Region.free_spec ho hf) (by simpa using hr) hy hS h

theorem AnyLate.done {b : Array Bool} {a : Act} {w : World} (hr : Region.ready md ops b = []) (h : Q .normal a w) : ∀ {m : Nat}, AnyLate P md ops Q S Z m b a w
  | 0 => ⟨hr, h⟩
  | _ + 1 => ⟨fun _ => h, by rw [hr]; simp⟩
/-- just one operation may come up, one of Z -/
theorem AnyLate.only {i : Nat} {o : Oper} {m : Nat} {b : Array Bool} {a : Act} {w : World} (hr : Region.ready md ops b = [i]) (ho : ops[i]? = some o) (hg : o.guard = none) (hZ : Z i = true)
    (h : ∀ K : Act → World → Prop, (∀ a' w', AnyLate P md ops Q S Z m (b.setIfInBounds i true) a' w' → K a' w') → o.wp P a w K Q) : AnyLate P md ops Q S Z (m + 1) b a w :=
  ⟨fun h0 => (by rw [hr] at h0; cases h0), fun j hj => by
    rw [hr, List.mem_singleton] at hj
    subst hj
    unfold wpOp
    simp only [ho]
    rw [if_pos (by simp [Region.wanted, hg])]
    exact .inl (h _ fun a' w' h1 => ⟨fun e => (by rw [hZ] at e; cases e), h1⟩)⟩
/-- one of two operations may come up, both of Z -/
theorem AnyLate.pair {i j : Nat} {o o' : Oper} {m : Nat} {b : Array Bool} {a : Act} {w : World} (hr : Region.ready md ops b = [i, j]) (ho : ops[i]? = some o) (hg : o.guard = none) (hZ : Z i = true) (ho' : ops[j]? = some o') (hg' : o'.guard = none) (hZ' : Z j = true)
    (h : ∀ K : Act → World → Prop, (∀ a' w', AnyLate P md ops Q S Z m (b.setIfInBounds i true) a' w' → K a' w') → o.wp P a w K Q) (h' : ∀ K : Act → World → Prop, (∀ a' w', AnyLate P md ops Q S Z m (b.setIfInBounds j true) a' w' → K a' w') → o'.wp P a w K Q) : AnyLate P md ops Q S Z (m + 1) b a w :=
  ⟨fun h0 => (by rw [hr] at h0; cases h0), fun l hl => by
    rw [hr] at hl
    simp only [List.mem_cons, List.not_mem_nil, or_false] at hl
    rcases hl with rfl | rfl
    · unfold wpOp
      simp only [ho]
      rw [if_pos (by simp [Region.wanted, hg])]
      exact .inl (h _ fun a' w' h1 => ⟨fun e => (by rw [hZ] at e; cases e), h1⟩)
    · unfold wpOp
      simp only [ho']
      rw [if_pos (by simp [Region.wanted, hg'])]
      exact .inl (h' _ fun a' w' h1 => ⟨fun e => (by rw [hZ'] at e; cases e), h1⟩)⟩
end

end Go.Proofs.Ytgcfplkfclapiaa

/- A region that draws its order, with a store in its midst and one at its end: what holds before the store need not hold behind it. -/
namespace Go.Proofs.Ytgcfplkfclapiaa
open Go.RowKit

section
variable {P : Program} {ops : Array Oper} {Q : Exit → Act → World → Prop} {md : Region.Mode} {q : Nat} {S : Bool → World → Prop} {Z : Nat → Bool}

/-- any order from here on; S, told whether q is done, holds behind each operation but those of Z -/
def AnyMid (P : Program) (md : Region.Mode) (ops : Array Oper) (Q : Exit → Act → World → Prop) (q : Nat) (S : Bool → World → Prop) (Z : Nat → Bool) : Nat → Array Bool → Act → World → Prop
  | 0, b, a, w => Region.ready md ops b = [] ∧ Q .normal a w
  | m + 1, b, a, w => (Region.ready md ops b = [] → Q .normal a w) ∧ ∀ i ∈ Region.ready md ops b, wpOp P ops Q i (fun a' w' => (Z i = false → S ((b.setIfInBounds i true).getD q true) w') ∧ AnyMid P md ops Q q S Z m (b.setIfInBounds i true) a' w') a w

theorem AnyMid.any : ∀ {m : Nat} {b : Array Bool} {a : Act} {w : World}, AnyMid P md ops Q q S Z m b a w → wpAny P md ops Q m b a w
  | 0, _, _, _, h => h
  | _ + 1, _, _, _, h => ⟨h.1, fun i hi => wpOp_mono (fun _ _ k => AnyMid.any k.2) (h.2 i hi)⟩

theorem AnyMid.begin {id : Nat} {a : Act} {w : World} (hm : P.follows .mixedOrders = true) (h : AnyMid P .any ops Q q S Z ops.size (Array.replicate ops.size false) a w.drew) : (Code.region id ops true).wp P Q a w :=
  wp_region_any hm h.any

theorem AnyMid.first {T : World → Prop} {i : Nat} {o : Oper} {v : Value} (ho : ops[i]? = some o) (hs : ∀ (j : Nat) (o : Oper) cs d, ops[j]? = some o → o.op ≠ .select cs d) (hQ : ∀ c a w, Q (.panic c) (a.put o.dst v) w → Q (.panic c) a w) {nf : Nat} (hw : ∀ z, Z z = true → waitsN md ops nf z i = true) (hiq : i ≠ q)
    (h0 : ∀ w, S false w → T w) (h1 : waitsN md ops nf q i = true ∨ ∀ w, S true w → T w) :
    ∀ (m : Nat) (b : Array Bool) (a : Act) (w : World), Closed md ops b → (∀ j oj, ops[j]? = some oj → j ≠ i → b.getD j true = false → (∀ e ∈ oj.after, Region.binds md e = true → e.on ≠ i) → o.apart ops oj = true) →
      i ∈ Region.ready md ops b → YieldsIf P ops T o v a → S (b.getD q true) w → AnyMid P md ops Q q S Z m (b.setIfInBounds i true) (a.put o.dst v) w → AnyMid P md ops Q q S Z (m + 1) b a w
  | m, b, a, w, hc, hf, hr, hy, hS, H => by
    refine ⟨fun h => (by rw [h] at hr; cases hr), fun j hj => ?_⟩
    have hib : b.getD i true = false := (mem_ready.1 hr).1
    have hT : T w := by
      cases e : b.getD q true with
      | false => rw [e] at hS; exact h0 _ hS
      | true =>
        rcases h1 with h1 | h1
        · rw [done_waits hc nf _ _ e h1] at hib; cases hib
        · rw [e] at hS; exact h1 _ hS
    by_cases hji : j = i
    · subst hji
      refine hy.wpOp ho hT ⟨fun _ => ?_, H⟩
      rw [getD_set_ne true hiq]
      exact hS
    · have hjr := ready_mono hj hji
      have hjz : Z j = false := by
        cases e : Z j with
        | false => rfl
        | true => rw [ready_waits hc nf hj (hw j e)] at hib; cases hib
      cases m with
      | zero => rw [H.1] at hjr; cases hjr
      | succ m =>
        obtain ⟨hjb, oj, hoj, hall⟩ := mem_ready.1 hj
        have hno : ∀ e ∈ oj.after, Region.binds md e = true → e.on ≠ i := fun e he hb heq => by
          have h1 := hall e he hb
          rw [heq] at h1
          rcases Nat.lt_or_ge i b.size with hl | hl
          · simp [hl] at h1 hib
            rw [h1] at hib
            cases hib
          · simp [Array.getElem?_eq_none hl] at hib
        have hput := wpOp_putIf hoj (hf j oj hoj hji hjb hno) (fun cs d => hs i o cs d ho) (fun cs d => hs j oj cs d hoj) hQ hy (H.2 j hjr)
        have hk : ∀ w', S (((b.setIfInBounds i true).setIfInBounds j true).getD q true) w' → S ((b.setIfInBounds j true).getD q true) w' := fun w' h => by
          rw [Array.setIfInBounds_comm _ _ (Ne.symm hji), getD_set_ne true hiq] at h
          exact h
        refine wpOp_mono (fun a' w' k => ⟨fun _ => hk _ (k.2.1 hjz), AnyMid.first ho hs hQ hw hiq h0 h1 m _ a' w' (hc.set hj) (fun l ol hl hli hlb hn => hf l ol hl hli ?_ hn) (ready_mono hr (Ne.symm hji)) k.1 (hk _ (k.2.1 hjz)) ?_⟩) hput
        · by_cases hjl : j = l
          · subst hjl; exact hjb
          · rwa [getD_set_ne true hjl] at hlb
        · rw [Array.setIfInBounds_comm _ _ hji]
          exact k.2.2

/-- number i, for which q and the last ones wait: what it reads stands before q -/
theorem AnyMid.take (T : World → Prop) {i : Nat} {o : Oper} {v : Value} {m : Nat} {b : Array Bool} {a : Act} {w : World} (zs : List Nat) (nf : Nat) (hz : ∀ z, Z z = true → z ∈ zs) (h0 : ∀ w, S false w → T w) (h1 : waitsN md ops nf q i = true ∨ ∀ w, S true w → T w) (hS : S (b.getD q true) w) (ho : ops[i]? = some o)
    (hk : (Region.noSelect ops && Region.free md ops b i && (Region.ready md ops b).contains i && zs.all (fun z => waitsN md ops nf z i) && closedB md ops b && !(i == q)) = true)
    (hQ : ∀ c a w, Q (.panic c) (a.put o.dst v) w → Q (.panic c) a w) (hy : YieldsIf P ops T o v a) (h : AnyMid P md ops Q q S Z m (b.setIfInBounds i true) (a.put o.dst v) w) : AnyMid P md ops Q q S Z (m + 1) b a w := by
  simp only [Bool.and_eq_true] at hk
  obtain ⟨⟨⟨⟨⟨k1, k2⟩, k3⟩, k4⟩, k5⟩, k6⟩ := hk
  exact AnyMid.first ho (Region.noSelect_spec k1) hQ (fun z h => List.all_eq_true.1 k4 z (hz z h)) (by simpa using k6) h0 h1 m b a w (closed_of k5) (Region.free_spec ho k2) (by simpa using k3) hy hS h

theorem AnyMid.done {b : Array Bool} {a : Act} {w : World} (hr : Region.ready md ops b = []) (h : Q .normal a w) : ∀ {m : Nat}, AnyMid P md ops Q q S Z m b a w
  | 0 => ⟨hr, h⟩
  | _ + 1 => ⟨fun _ => h, by rw [hr]; simp⟩
/-- just one operation may come up -/
theorem AnyMid.only {i : Nat} {o : Oper} {m : Nat} {b : Array Bool} {a : Act} {w : World} (hr : Region.ready md ops b = [i]) (ho : ops[i]? = some o) (hg : o.guard = none)
    (h : ∀ K : Act → World → Prop, (∀ a' w', (Z i = false → S ((b.setIfInBounds i true).getD q true) w') → AnyMid P md ops Q q S Z m (b.setIfInBounds i true) a' w' → K a' w') → o.wp P a w K Q) : AnyMid P md ops Q q S Z (m + 1) b a w :=
  ⟨fun h0 => (by rw [hr] at h0; cases h0), fun j hj => by
    rw [hr, List.mem_singleton] at hj
    subst hj
    unfold wpOp
    simp only [ho]
    rw [if_pos (by simp [Region.wanted, hg])]
    exact .inl (h _ fun a' w' h1 h2 => ⟨h1, h2⟩)⟩
end

end Go.Proofs.Ytgcfplkfclapiaa

/- Walks of the package fluid: pumping. -/
namespace Go.Proofs.Ytgcfplkfclapiaa
open Go.RowKit Go.Shelf Mpl

theorem own_keep {W W' : World} {base : Nat} {e : TypeId} {size : Nat} {v : Value} {n : Nat} {xs : List Value} {row : Option Nat} (h : W.ownsRow base e size v n xs) (hg : W.grownBy W' row) (hne : v.ownBlock = none ∨ v.ownBlock ≠ row) : W'.ownsRow base e size v n xs := by
  obtain ⟨h1, h2⟩ := h
  refine ⟨h1, ?_⟩
  rcases h2 with h2 | ⟨g, cap, cur, hv, hgg, hh, r⟩
  · exact .inl h2
  · refine .inr ⟨g, cap, cur, hv, hgg, (hg.block g (Array.getElem?_eq_some_iff.1 hh).1 ?_).trans hh, r⟩
    rcases hne with h | h
    · rw [hv] at h; cases h
    · rw [hv] at h; exact h

/-- two columns of the call's own, in blocks apart -/
structure Rows2 (W : World) (base : Nat) (vn vo : Value) (na no : List Slug) : Prop where
  o1 : W.ownsRow base 39 2 vn na.length (na.flatMap slugC)
  o2 : W.ownsRow base 39 2 vo no.length (no.flatMap slugC)
  ne : vn.ownBlock = none ∨ vo.ownBlock = none ∨ vn.ownBlock ≠ vo.ownBlock
theorem Rows2.swap {W : World} {base : Nat} {vn vo : Value} {na no : List Slug} (h : Rows2 W base vn vo na no) : Rows2 W base vo vn no na := ⟨h.o2, h.o1, by rcases h.ne with h | h | h <;> simp_all [eq_comm]⟩
theorem Rows2.under {W W' : World} {base : Nat} {vn vo : Value} {na no : List Slug} (h : Rows2 W base vn vo na no) (hb : Below W.heap.size W W') : Rows2 W' base vn vo na no := ⟨own_under h.o1 hb, own_under h.o2 hb, h.ne⟩
theorem Rows2.far {W : World} {base : Nat} {vn vo : Value} {na no : List Slug} (h : Rows2 W base vn vo na no) {p : Addr} (hp : p.block < base) (u : Value) : Rows2 (W.setCell p u) base vn vo na no := ⟨own_far h.o1 hp u, own_far h.o2 hp u, h.ne⟩
theorem Rows2.push {W W' : World} {base g cap : Nat} {vn vo : Value} {na no : List Slug} {x : Slug} (h : Rows2 W base vn vo na no) (ho : W'.ownsRow base 39 2 (.slice (some ⟨g, 0, none⟩) (na.length + 1) cap) (na.length + 1) (na.flatMap slugC ++ slugC x)) (hg : W.grownBy W' vn.ownBlock) (hat : vn.ownBlock = some g ∨ g = W.heap.size) :
    Rows2 W' base (.slice (some ⟨g, 0, none⟩) (na.length + 1) cap) vo (na ++ [x]) no := by
  have hlt := own_lt h.o2
  refine ⟨by rw [List.flatMap_append, List.length_append]; simpa using ho, own_keep h.o2 hg ?_, ?_⟩
  · rcases h.ne with h1 | h1 | h1
    · by_cases h2 : vo.ownBlock = none
      · exact .inl h2
      · right; rw [h1]; exact h2
    · exact .inl h1
    · exact .inr fun e => h1 e.symm
  · right
    by_cases h2 : vo.ownBlock = none
    · exact .inl h2
    · right
      intro e
      have e' : vo.ownBlock = some g := e.symm
      rcases hat with h3 | h3
      · rcases h.ne with h4 | h4 | h4
        · rw [h3] at h4; cases h4
        · exact h2 h4
        · exact h4 (h3.trans e'.symm)
      · have := hlt g e'
        omega

set_option maxHeartbeats 4000000 in
set_option maxRecDepth 100000 in
theorem fluid_Pump1 (x : Slug) (gr : Nat) (room : Int) (vn vo : Value) (na no : List Slug) (base B : Nat) (W : World) (gn gO : Nat)
    (br : Box W gr 2 #[.int .i64 room]) (bn : Box W gn 30 #[vn]) (bo : Box W gO 30 #[vo]) (hR : Rows2 W base vn vo na no)
    (h1 : gn < base) (h2 : gO < base) (h3 : gr < base) (n1 : gn ≠ gO) (n2 : gn ≠ gr) (n3 : gO ≠ gr) (hB1 : B ≤ gn) (hB2 : B ≤ gO) (hB3 : B ≤ gr) (hbs : base ≤ W.heap.size)
    (r0 : 0 ≤ room) (r1 : room ≤ 1099511627776) (x0 : 0 ≤ x.Volume) (x1 : x.Volume ≤ 1099511627776) (hn1 : na.length ≤ 1000) (hn2 : no.length ≤ 1000) :
    Calls Try.prog 89 #[slugV x, .pointer (some ⟨gr, 0, none⟩), .pointer (some ⟨gn, 0, none⟩), .pointer (some ⟨gO, 0, none⟩)] W fun e W' => (∃ v, e = .returned v) ∧ ∃ vn' vo', Box W' gr 2 #[.int .i64 (room - min room x.Volume)] ∧ Box W' gn 30 #[vn'] ∧ Box W' gO 30 #[vo'] ∧
      Rows2 W' base vn' vo' (na ++ [⟨x.Weight, min room x.Volume⟩]) (no ++ [⟨x.Weight, x.Volume - min room x.Volume⟩]) ∧ Below B W W' ∧ base ≤ W'.heap.size := by
  obtain ⟨i0, hi0, hz0, hz1, hz2⟩ := info_parts info_Slug
  obtain ⟨mn, hmn⟩ : ∃ mn, (if x.Volume < room then x.Volume else room) = mn := ⟨_, rfl⟩
  have hmn2 : min room x.Volume = mn := by rw [← hmn]; split <;> omega
  rw [hmn2]
  have m0 : 0 ≤ mn := by omega
  have m1 : mn ≤ room := by omega
  have m2 : mn ≤ x.Volume := by omega
  unfold slugV
  clear hmn2
  generalize x.Weight = xw at *
  generalize x.Volume = xv at *
  have hv1 : Hid (vn.ownBlock ≠ some W.heap.size) := fun e => by have := own_lt hR.o1 _ e; omega
  have hv2 : Hid (vo.ownBlock ≠ some W.heap.size) := fun e => by have := own_lt hR.o2 _ e; omega
  have nb1 : Hid (∀ k, k < base → vn.ownBlock ≠ some k) := fun k hk he => by
    rcases hR.o1.2 with ⟨h, _⟩ | ⟨g', _, _, h, hg', _⟩
    · rw [h] at he; simp [Value.ownBlock] at he
    · rw [h] at he
      have : g' = k := by simpa [Value.ownBlock] using he
      omega
  have nb2 : Hid (∀ k, k < base → vo.ownBlock ≠ some k) := fun k hk he => by
    rcases hR.o2.2 with ⟨h, _⟩ | ⟨g', _, _, h, hg', _⟩
    · rw [h] at he; simp [Value.ownBlock] at he
    · rw [h] at he
      have : g' = k := by simpa [Value.ownBlock] using he
      omega
  obtain ⟨w0, hw0⟩ : ∃ w0, W.alloc (.cells #[.int .i64 xw, .int .i64 xv] 39) = w0 := ⟨_, rfl⟩
  have ha : Below W.heap.size W w0 := by rw [← hw0]; exact (Below.refl _ _).alloc (Nat.le_refl _) _
  have BX := Lib.hid (show Box w0 W.heap.size 39 #[.int .i64 xw, .int .i64 xv] by rw [← hw0]; exact Box.new _ _ _ rfl)
  have BR := Lib.hid (br.under ha)
  have BN := Lib.hid (bn.under ha)
  have BO := Lib.hid (bo.under ha)
  have RR := Lib.hid (hR.under ha)
  have HB := Lib.hid (ha.mono (show B ≤ W.heap.size by omega))
  have hs0 : w0.heap.size = W.heap.size + 1 := by rw [← hw0]; simp
  have HW0 := Lib.hid hw0
  have HS0 := Lib.hid hs0
  have hltr := br.lt
  have hltn := bn.lt
  have hlto := bo.lt
  clear hw0 ha hs0 br bn bo hR
  have q0 : w0.cell? ⟨gr, 0, none⟩ = some (.int .i64 room) := BR.out.cell 0
  have q1 : w0.cell? ⟨W.heap.size, 1, none⟩ = some (.int .i64 xv) := BX.out.cell 1
  have f0 := BR.out.frozen 0
  go_enter Try.func89, Try.ntmps89
  go_upto_region 1 with fail
  rw [HW0.out]
  go_upto_region 2 with fail
  obtain ⟨w1, hw1⟩ : ∃ w1, w0.setCell ⟨gr, 0, none⟩ (.int .i64 (room - mn)) = w1 := ⟨_, rfl⟩
  have ne0 : W.heap.size ≠ gr := by omega
  have BX1 := Lib.hid (show Box w1 W.heap.size 39 #[.int .i64 xw, .int .i64 xv] by rw [← hw1]; exact BX.out.far (by simpa using ne0) _)
  have BR1 := Lib.hid (show Box w1 gr 2 #[.int .i64 (room - mn)] by rw [← hw1]; simpa using BR.out.set_ 0 (.int .i64 (room - mn)))
  have BN1 := Lib.hid (show Box w1 gn 30 #[vn] by rw [← hw1]; exact BN.out.far (by simpa using n2) _)
  have BO1 := Lib.hid (show Box w1 gO 30 #[vo] by rw [← hw1]; exact BO.out.far (by simpa using n3) _)
  have RR1 := Lib.hid (show Rows2 w1 base vn vo na no by rw [← hw1]; exact RR.out.far (by simpa using h3) _)
  have HB1 := Lib.hid (show Below B W w1 by rw [← hw1]; exact HB.out.setCell (p := ⟨gr, 0, none⟩) (by simpa using hB3) _)
  have hs1 : w1.heap.size = W.heap.size + 1 := by rw [← hw1]; simpa using HS0.out
  have HW1 := Lib.hid hw1
  have HS1 := Lib.hid hs1
  clear hw1 BX BR BN BO RR HB HS0 HW0
  have y0 : w1.cell? ⟨gn, 0, none⟩ = some vn := BN1.out.cell 0
  have y1 : w1.cell? ⟨W.heap.size, 0, none⟩ = some (.int .i64 xw) := BX1.out.cell 0
  have l1 : W.heap.size < w1.heap.size := by omega
  clear hs1
  go_upto_region 3 with fail
  rw [HW1.out]
  clear q0 q1 f0
  go_wp2_with (at_builtin; refine wpList_append_lies _ rfl _ _ 30 rfl base 39 i0 (.agg #[.int .i64 0, .int .i64 0]) 2 16 Try.underlying30 hi0 hz0 hz1 hz2 rfl (by decide) vn na.length (na.flatMap slugC) rfl (RR1.out.o1.alloc _) ⟨w1.heap.size, 0, none⟩ 1 1 (slugC ⟨xw, mn⟩) rfl rfl ?_ ?_ ?_ ?_ ?_ ?_ (w1.heap.size + 1) ?_ ?_)
  · exact cells_new w1 (slugC ⟨xw, mn⟩) 39
  · simp [slugC, Value.oneCell']
  · omega
  · unfold maxLen; omega
  · omega
  · simp; omega
  · simp
  intro g cap w2 hown2 hg2 hat2 hlt2
  have hba : Below w1.heap.size w1 (w1.alloc (.cells #[.int .i64 xw, .int .i64 mn] 39)) := (Below.refl _ _).alloc (Nat.le_refl _) _
  have hs1 := HS1.out
  have hsa : (w1.alloc (.cells #[.int .i64 xw, .int .i64 mn] 39)).heap.size = w1.heap.size + 1 := by simp
  have RR2 := Lib.hid ((RR1.out.under hba).push hown2 hg2 (by rw [hsa]; exact hat2))
  have BX2 := Lib.hid ((BX1.out.under hba).grownRow hg2 hv1.out)
  have BR2 := Lib.hid ((BR1.out.under hba).grownRow hg2 (nb1.out _ h3))
  have BN2 := Lib.hid ((BN1.out.under hba).grownRow hg2 (nb1.out _ h1))
  have BO2 := Lib.hid ((BO1.out.under hba).grownRow hg2 (nb1.out _ h2))
  have HB2 := Lib.hid (below_grown (HB1.out.trans (hba.mono (by have := HB1.out.size; omega))) (own_le (RR1.out.under hba).o1 (show B ≤ base by omega)) hg2 (by simp; omega))
  have hs2 := hg2.size
  have HS2 := Lib.hid (show base ≤ w2.heap.size ∧ W.heap.size + 1 ≤ w2.heap.size by simp at hs2; omega)
  obtain ⟨w3, hw3⟩ : ∃ w3, w2.setCell ⟨gn, 0, none⟩ (.slice (some ⟨g, 0, none⟩) (na.length + 1) cap) = w3 := ⟨_, rfl⟩
  have neX : W.heap.size ≠ gn := by omega
  have BX3 := Lib.hid (show Box w3 W.heap.size 39 #[.int .i64 xw, .int .i64 xv] by rw [← hw3]; exact BX2.out.far (by simpa using neX) _)
  have BR3 := Lib.hid (show Box w3 gr 2 #[.int .i64 (room - mn)] by rw [← hw3]; exact BR2.out.far (by simpa using n2.symm) _)
  have BN3 := Lib.hid (show Box w3 gn 30 #[.slice (some ⟨g, 0, none⟩) (na.length + 1) cap] by rw [← hw3]; simpa using BN2.out.set_ 0 (.slice (some ⟨g, 0, none⟩) (na.length + 1) cap))
  have BO3 := Lib.hid (show Box w3 gO 30 #[vo] by rw [← hw3]; exact BO2.out.far (by simpa using n1.symm) _)
  have RR3 := Lib.hid (show Rows2 w3 base (.slice (some ⟨g, 0, none⟩) (na.length + 1) cap) vo (na ++ [⟨xw, mn⟩]) no by rw [← hw3]; exact RR2.out.far (by simpa using h1) _)
  have HB3' := Lib.hid (show Below B W w3 by rw [← hw3]; exact HB2.out.setCell (p := ⟨gn, 0, none⟩) (by simpa using hB1) _)
  have HS3 := Lib.hid (show base ≤ w3.heap.size ∧ W.heap.size + 1 ≤ w3.heap.size by rw [← hw3]; simpa using HS2.out)
  have HW3 := Lib.hid hw3
  have k0 := BN2.out.cell 0
  have k1 := BN2.out.frozen 0
  simp only [List.getElem?_toArray, List.getElem?_cons_zero] at k0
  clear hw3 hown2 hg2 hat2 hba hs1 hsa hs2 BX1 BR1 BN1 BO1 RR1 BX2 BR2 BN2 BO2 RR2 HB1 HB2 y0 y1 l1
  have y0 : w3.cell? ⟨gO, 0, none⟩ = some vo := BO3.out.cell 0
  have y1 : w3.cell? ⟨W.heap.size, 0, none⟩ = some (.int .i64 xw) := BX3.out.cell 0
  have y2 : w3.cell? ⟨W.heap.size, 1, none⟩ = some (.int .i64 xv) := BX3.out.cell 1
  have l1 : W.heap.size < w3.heap.size := by have := HS3.out.2; omega
  go_upto_region 4 with fail
  rw [HW3.out]
  clear k0 k1
  go_wp2_with (at_builtin; refine wpList_append_lies _ rfl _ _ 30 rfl base 39 i0 (.agg #[.int .i64 0, .int .i64 0]) 2 16 Try.underlying30 hi0 hz0 hz1 hz2 rfl (by decide) vo no.length (no.flatMap slugC) rfl (RR3.out.o2.alloc _) ⟨w3.heap.size, 0, none⟩ 1 1 (slugC ⟨xw, xv - mn⟩) rfl rfl ?_ ?_ ?_ ?_ ?_ ?_ (w3.heap.size + 1) ?_ ?_)
  · exact cells_new w3 (slugC ⟨xw, xv - mn⟩) 39
  · simp [slugC, Value.oneCell']
  · omega
  · unfold maxLen; omega
  · omega
  · have := HS3.out.1; simp; omega
  · simp
  intro g4 cap4 w4 hown4 hg4 hat4 hlt4
  have hba : Below w3.heap.size w3 (w3.alloc (.cells #[.int .i64 xw, .int .i64 (xv - mn)] 39)) := (Below.refl _ _).alloc (Nat.le_refl _) _
  have hsa : (w3.alloc (.cells #[.int .i64 xw, .int .i64 (xv - mn)] 39)).heap.size = w3.heap.size + 1 := by simp
  have RR4 := Lib.hid ((RR3.out.under hba).swap.push hown4 hg4 (by rw [hsa]; exact hat4)).swap
  have BR4 := Lib.hid ((BR3.out.under hba).grownRow hg4 (nb2.out _ h3))
  have BN4 := Lib.hid ((BN3.out.under hba).grownRow hg4 (nb2.out _ h1))
  have BO4 := Lib.hid ((BO3.out.under hba).grownRow hg4 (nb2.out _ h2))
  have hs3 := HS3.out
  have HB4 := Lib.hid (below_grown (HB3'.out.trans (hba.mono (by omega))) (own_le (RR3.out.under hba).o2 (show B ≤ base by omega)) hg4 (by simp; omega))
  have hs4 := hg4.size
  have HS4 := Lib.hid (show base ≤ w4.heap.size by simp at hs4; omega)
  have k0 := BO4.out.cell 0
  have k1 := BO4.out.frozen 0
  simp only [List.getElem?_toArray, List.getElem?_cons_zero] at k0
  clear hown4 hg4 hat4 hba hsa hs3 hs4 BX3 BR3 BN3 BO3 RR3 HB3' y0 y1 y2 l1
  go_wp2_with fail
  go_end0
  refine ⟨⟨_, rfl⟩, .slice (some ⟨g, 0, none⟩) (na.length + 1) cap, .slice (some ⟨g4, 0, none⟩) (no.length + 1) cap4, BR4.out.far (by simpa using n3.symm) _, BN4.out.far (by simpa using n1) _, ?_, RR4.out.far (by simpa using h2) _, HB4.out.setCell (p := ⟨gO, 0, none⟩) (by simpa using hB2) _, by simpa using HS4.out⟩
  simpa using BO4.out.set_ 0 (.slice (some ⟨g4, 0, none⟩) (no.length + 1) cap4)

end Go.Proofs.Ytgcfplkfclapiaa

/- Walks of the package fluid: pumping, whole. -/
namespace Mpl
/-- what is put, slug by slug: what room is left, what stays, what goes -/
def putTo (V : Int) (l : List Slug) : Nat → Int × List Slug × List Slug
  | 0 => (V, [], [])
  | k + 1 => ((putTo V l k).1 - min (putTo V l k).1 (slg l k).Volume, (putTo V l k).2.1 ++ [⟨(slg l k).Weight, min (putTo V l k).1 (slg l k).Volume⟩], (putTo V l k).2.2 ++ [⟨(slg l k).Weight, (slg l k).Volume - min (putTo V l k).1 (slg l k).Volume⟩])
theorem putTo_spec (V : Int) (l : List Slug) (k : Nat) (hk : k ≤ l.length) : stays V l = (putTo V l k).2.1 ++ stays (putTo V l k).1 (l.drop k) ∧ goes V l = (putTo V l k).2.2 ++ goes (putTo V l k).1 (l.drop k) := by
  induction k with
  | zero => simp [putTo]
  | succ k ih =>
    obtain ⟨h1, h2⟩ := ih (by omega)
    have hd : l.drop k = slg l k :: l.drop (k + 1) := by
      rw [List.drop_eq_getElem_cons (by omega)]
      simp [slg, show k < l.length by omega]
    rw [hd, stays] at h1
    rw [hd, goes] at h2
    refine ⟨?_, ?_⟩
    · rw [h1]; simp [putTo]
    · rw [h2]; simp [putTo]
theorem putTo_all (V : Int) (l : List Slug) : (putTo V l l.length).2.1 = stays V l ∧ (putTo V l l.length).2.2 = goes V l := by
  obtain ⟨h1, h2⟩ := putTo_spec V l l.length (Nat.le_refl _)
  rw [h1, h2]
  simp [stays, goes]
theorem putTo_room (V : Int) (l : List Slug) (hV : 0 ≤ V) (h : ∀ i, i < l.length → 0 ≤ (slg l i).Volume) (k : Nat) (hk : k ≤ l.length) : 0 ≤ (putTo V l k).1 ∧ (putTo V l k).1 ≤ V ∧ (putTo V l k).2.1.length = k ∧ (putTo V l k).2.2.length = k := by
  induction k with
  | zero => simp [putTo]; omega
  | succ k ih =>
    have i := ih (by omega)
    have := h k (by omega)
    simp only [putTo, List.length_append, List.length_singleton]
    omega
end Mpl
namespace Go.Proofs.Ytgcfplkfclapiaa
open Go.RowKit Go.Shelf Mpl
attribute [local go_sem] Oper.semAt_some

theorem enters_Pump1 : ∀ args w, (callFunc 89 args).run Try.prog w = .ok (.enter 89 args) w := enters_of Try.func89 (by kernel_rfl) rfl

theorem results_pump {fn : Func} {p q u : Tmp} (h : fn.results = #[.cell p 30, .cell q 30, .tmp u]) (tmps : Array Value) (w : World) (g g' : Nat) (a1 a2 : Option Addr) (n1 c1 n2 c2 : Nat) (c : Value)
    (hp : tmps.getD p undef = .pointer (some ⟨g, 0, none⟩)) (hq : tmps.getD q undef = .pointer (some ⟨g', 0, none⟩)) (hu : tmps.getD u undef = c) (h1 : w.cell? ⟨g, 0, none⟩ = some (.slice a1 n1 c1)) (h2 : w.cell? ⟨g', 0, none⟩ = some (.slice a2 n2 c2)) :
    (results fn tmps).run Try.prog w = .ok (.tuple #[.slice a1 n1 c1, .slice a2 n2 c2, c]) w := by
  simp only [results, h]
  rw [Array.getD_eq_getD_getElem?] at hp hq hu
  simp [Sem.run_bind, Result.andThen]
  rw [hp, hq, hu]
  simp [go_sem, h1, h2]

section
variable {P : Program} {ops : Array Oper} {Q : Exit → Act → World → Prop} {md : Region.Mode} {q : Nat} {S : Bool → World → Prop} {Z : Nat → Bool}
/-- one of two operations may come up -/
theorem AnyMid.two {i j : Nat} {o o' : Oper} {m : Nat} {b : Array Bool} {a : Act} {w : World} (hr : Region.ready md ops b = [i, j]) (ho : ops[i]? = some o) (hg : o.guard = none) (ho' : ops[j]? = some o') (hg' : o'.guard = none)
    (h : ∀ K : Act → World → Prop, (∀ a' w', (Z i = false → S ((b.setIfInBounds i true).getD q true) w') → AnyMid P md ops Q q S Z m (b.setIfInBounds i true) a' w' → K a' w') → o.wp P a w K Q)
    (h' : ∀ K : Act → World → Prop, (∀ a' w', (Z j = false → S ((b.setIfInBounds j true).getD q true) w') → AnyMid P md ops Q q S Z m (b.setIfInBounds j true) a' w' → K a' w') → o'.wp P a w K Q) : AnyMid P md ops Q q S Z (m + 1) b a w :=
  ⟨fun h0 => (by rw [hr] at h0; cases h0), fun l hl => by
    rw [hr] at hl
    simp only [List.mem_cons, List.not_mem_nil, or_false] at hl
    rcases hl with rfl | rfl
    · unfold wpOp
      simp only [ho]
      rw [if_pos (by simp [Region.wanted, hg])]
      exact .inl (h _ fun a' w' h1 h2 => ⟨h1, h2⟩)
    · unfold wpOp
      simp only [ho']
      rw [if_pos (by simp [Region.wanted, hg'])]
      exact .inl (h' _ fun a' w' h1 h2 => ⟨h1, h2⟩)⟩
end

/-- while slugs are put -/
def PuSt (w : World) (base gr gn gO : Nat) (V : Int) (S : List Slug) (k : Nat) (W : World) : Prop :=
  ∃ vn vo, Box W gr 2 #[.int .i64 (putTo V S k).1] ∧ Box W gn 30 #[vn] ∧ Box W gO 30 #[vo] ∧ Rows2 W base vn vo (putTo V S k).2.1 (putTo V S k).2.2 ∧ Below w.heap.size w W ∧ base ≤ W.heap.size
theorem PuSt.under {w W W' : World} {base gr gn gO : Nat} {V : Int} {S : List Slug} {k : Nat} (h : PuSt w base gr gn gO V S k W) (hb : Below W.heap.size W W') : PuSt w base gr gn gO V S k W' := by
  obtain ⟨vn, vo, c1, c2, c3, hr, hw, hs⟩ := h
  exact ⟨vn, vo, c1.under hb, c2.under hb, c3.under hb, hr.under hb, hw.trans (hb.mono hw.size), Nat.le_trans hs hb.size⟩
theorem pump_put {w : World} {base gr gn gO : Nat} {V : Int} {S : List Slug} {k : Nat} {W : World} (h : PuSt w base gr gn gO V S k W) (h1 : gn < base) (h2 : gO < base) (h3 : gr < base) (n1 : gn ≠ gO) (n2 : gn ≠ gr) (n3 : gO ≠ gr) (b1 : w.heap.size ≤ gn) (b2 : w.heap.size ≤ gO) (b3 : w.heap.size ≤ gr)
    (r0 : 0 ≤ (putTo V S k).1) (r1 : (putTo V S k).1 ≤ 1099511627776) (x0 : 0 ≤ (slg S k).Volume) (x1 : (slg S k).Volume ≤ 1099511627776) (m1 : (putTo V S k).2.1.length ≤ 1000) (m2 : (putTo V S k).2.2.length ≤ 1000) :
    Calls Try.prog 89 #[.agg #[.int .i64 (slg S k).Weight, .int .i64 (slg S k).Volume], .pointer (some ⟨gr, 0, none⟩), .pointer (some ⟨gn, 0, none⟩), .pointer (some ⟨gO, 0, none⟩)] W fun e W' => (∃ v, e = .returned v) ∧ PuSt w base gr gn gO V S (k + 1) W' := by
  obtain ⟨vn, vo, c1, c2, c3, hr, hb, hs⟩ := h
  refine (fluid_Pump1 (slg S k) gr _ vn vo _ _ base w.heap.size W gn gO c1 c2 c3 hr h1 h2 h3 n1 n2 n3 b1 b2 b3 hs r0 r1 x0 x1 m1 m2).mono ?_
  rintro e W' ⟨hv, vn', vo', d1, d2, d3, hr', hb', hs'⟩
  exact ⟨hv, vn', vo', d1, d2, d3, hr', hb.trans hb', hs'⟩

/-- all put, and plain -/
structure PuEnd (w : World) (base gn gO : Nat) (v1 v2 u1 u2 : Value) (l1 l2 : List Slug) (W : World) : Prop where
  n1 : Box W gn 30 #[u1]
  n2 : Box W gO 30 #[u2]
  o1 : W.ownsRow base 39 2 v1 l1.length (l1.flatMap slugC)
  o2 : W.ownsRow base 39 2 v2 l2.length (l2.flatMap slugC)
  b : Below w.heap.size w W
  ne : gn ≠ gO
  h1 : gn < base
  h2 : gO < base
  h3 : w.heap.size ≤ gn
  h4 : w.heap.size ≤ gO
theorem PuEnd.put1 {w W : World} {base gn gO : Nat} {v1 v2 u1 u2 : Value} {l1 l2 : List Slug} (h : PuEnd w base gn gO v1 v2 u1 u2 l1 l2 W) (v : Value) : PuEnd w base gn gO v1 v2 v u2 l1 l2 (W.setCell ⟨gn, 0, none⟩ v) :=
  ⟨by simpa using h.n1.set_ 0 v, h.n2.far (by simpa using h.ne.symm) _, own_far h.o1 (by simpa using h.h1) _, own_far h.o2 (by simpa using h.h1) _, h.b.setCell (p := ⟨gn, 0, none⟩) (by simpa using h.h3) _, h.ne, h.h1, h.h2, h.h3, h.h4⟩
theorem PuEnd.put2 {w W : World} {base gn gO : Nat} {v1 v2 u1 u2 : Value} {l1 l2 : List Slug} (h : PuEnd w base gn gO v1 v2 u1 u2 l1 l2 W) (v : Value) : PuEnd w base gn gO v1 v2 u1 v l1 l2 (W.setCell ⟨gO, 0, none⟩ v) :=
  ⟨h.n1.far (by simpa using h.ne) _, by simpa using h.n2.set_ 0 v, own_far h.o1 (by simpa using h.h2) _, own_far h.o2 (by simpa using h.h2) _, h.b.setCell (p := ⟨gO, 0, none⟩) (by simpa using h.h4) _, h.ne, h.h1, h.h2, h.h3, h.h4⟩
theorem PuEnd.drew {w W : World} {base gn gO : Nat} {v1 v2 u1 u2 : Value} {l1 l2 : List Slug} (h : PuEnd w base gn gO v1 v2 u1 u2 l1 l2 W) : PuEnd w base gn gO v1 v2 u1 u2 l1 l2 W.drew :=
  ⟨h.n1.drew, h.n2.drew, own_under h.o1 (Below.refl _ _).drew, own_under h.o2 (Below.refl _ _).drew, h.b.drew, h.ne, h.h1, h.h2, h.h3, h.h4⟩

/-- what is pumped, in memory -/
def PumpV (w : World) (P : List Slug × List Slug × Int) (e : Ending) (w' : World) : Prop :=
  (∃ A1 c1 A2 c2, e = .returned (.tuple #[.slice A1 P.1.length c1, .slice A2 P.2.1.length c2, .int .i64 P.2.2]) ∧ w'.ownsRow w.heap.size 39 2 (.slice A1 P.1.length c1) P.1.length (P.1.flatMap slugC) ∧ w'.ownsRow w.heap.size 39 2 (.slice A2 P.2.1.length c2) P.2.1.length (P.2.1.flatMap slugC)) ∧ Below w.heap.size w w'

set_option maxHeartbeats 8000000 in
set_option maxRecDepth 100000 in
theorem fluid_Pump (v0 : Value) (h : List Seg) (l : List Slug) (s : Slug) (A : Option Addr) (c : Nat) (w : World) (hv : HoleV w w.heap.size v0 h) (hin : SegsIn h) (hm : h.length ≤ maxLen) (hl : Slugs w w.heap.size A l) (hlin : SlugsIn l) (hlm : l.length ≤ maxLen) :
    Calls Try.prog 53 #[v0, .slice A l.length c, slugV s] w fun e w' => PumpV w (pump h l s) e w' := by
  have hvv := hv
  obtain ⟨AH, cH, rfl, hS⟩ := hv
  obtain ⟨w0, hw0⟩ : ∃ w0, (((w.alloc (.cells #[.slice AH h.length cH] 25)).alloc (.cells #[.int .i64 s.Weight, .int .i64 s.Volume] 39)).alloc (.cells #[.slice none 0 0] 30)).alloc (.cells #[.slice none 0 0] 30) = w0 := ⟨_, rfl⟩
  have hB0 : Below w.heap.size w w0 := by rw [← hw0]; exact (by repeat (first | exact Below.refl _ _ | assumption | refine Below.setCell ?_ (by first | (simp; done) | (simp; omega)) _ | refine belowDrewN ?_ _ | refine Below.drew ?_ | refine Below.alloc ?_ (by first | (simp; done) | (simp; omega)) _))
  have B0 := Lib.hid (show Box w0 w.heap.size 25 #[.slice AH h.length cH] by rw [← hw0]; exact (((Box.new w _ _ rfl).alloc _).alloc _).alloc _)
  have B1 := Lib.hid (show Box w0 (w.heap.size + 1) 39 #[.int .i64 s.Weight, .int .i64 s.Volume] by rw [← hw0]; exact ((Box.new _ _ _ (by simp)).alloc _).alloc _)
  have B2 := Lib.hid (show Box w0 (w.heap.size + 1 + 1) 30 #[.slice none 0 0] by rw [← hw0]; exact (Box.new _ _ _ (by simp)).alloc _)
  have B3 := Lib.hid (show Box w0 (w.heap.size + 1 + 1 + 1) 30 #[.slice none 0 0] by rw [← hw0]; exact Box.new _ _ _ (by simp))
  have HC := Lib.hid (fluid_CheckColumn _ h l A c w0 (hvv.below hB0) hin hm (hl.below hB0) hlin hlm)
  have HW0 := Lib.hid hw0
  have HB0 := Lib.hid hB0
  have hdef : Hid (pump h l s = if checkColumn h l ≠ 0 then ([], [], checkColumn h l) else if within s.Weight 0 40000 && within s.Volume 1 (sizeUp h h.length) then (if 24 < (plainOf (stays (sizeUp h h.length) (s :: l))).length then ([], [], 8) else (plainOf (stays (sizeUp h h.length) (s :: l)), plainOf (goes (sizeUp h h.length) (s :: l)), 0)) else ([], [], 2)) := rfl
  have q0 := hole_box B0.out
  clear hw0 hB0
  by_cases h0 : checkColumn h l = 0
  case neg =>
    have hp : Hid (pump h l s = ([], [], checkColumn h l)) := by unfold Hid; rw [hdef.out, if_pos h0]
    have hz : (checkColumn h l != 0) = true := by simpa using h0
    clear hdef h0 hS hvv
    rw [hp.out]
    generalize checkColumn h l = ch at *
    unfold slugV
    generalize h.length = nh at *
    generalize l.length = n at *
    go_enter Try.func53, Try.ntmps53
    go_wp2_with fail
    rw [HW0.out]
    go_wp2_with fail
    refine HC.out.mono ?_
    rintro e w1 ⟨rfl, hb1⟩
    have C2 := Lib.hid (B2.out.under hb1)
    have C3 := Lib.hid (B3.out.under hb1)
    have HB1 := Lib.hid (HB0.out.trans (hb1.mono HB0.out.size))
    have x2 : w1.cell? ⟨w.heap.size + 1 + 1, 0, none⟩ = some (.slice none 0 0) := C2.out.cell 0
    have x3 : w1.cell? ⟨w.heap.size + 1 + 1 + 1, 0, none⟩ = some (.slice none 0 0) := C3.out.cell 0
    have f2 := C2.out.frozen 0
    have f3 := C3.out.frozen 0
    clear hb1
    go_wp2_with fail
    refine bodyPost_ret (results_pump rfl _ _ (w.heap.size + 1 + 1) (w.heap.size + 1 + 1 + 1) none none 0 0 0 0 (.int .i64 ch) rfl rfl rfl ?_ ?_) rfl ?_
    · exact ((((C2.out).set_ 0 (.slice none 0 0)).far (by simp) _).cell 0).trans (by simp)
    · exact (((((C3.out).far (by simp) (.slice none 0 0))).set_ 0 (.slice none 0 0)).cell 0).trans (by simp)
    · (try rw [hp.out])
      exact ⟨⟨none, 0, none, 0, rfl, World.ownsRow_nil _ _ _ _, World.ownsRow_nil _ _ _ _⟩, ((HB1.out).setCell (p := ⟨w.heap.size + 1 + 1, 0, none⟩) (by simp; omega) _).setCell (p := ⟨w.heap.size + 1 + 1 + 1, 0, none⟩) (by simp; omega) _⟩
  have gc := (checkColumn_iff h l).1 h0
  have GC := Lib.hid gc
  have hhl := hl
  obtain ⟨b, off, rfl, hbl, hcl⟩ := hl gc.pos
  have HCL := Lib.hid hcl
  rw [h0] at HC
  have HVO := Lib.hid (fun W (hW : Below w0.heap.size w0 W) => fluid_volume _ h W ((hvv.below HB0.out).below hW) gc.hole)
  have hV := (gc.hole.ups h.length (Nat.le_refl _)).2.2.2.2
  have hV0 : 0 ≤ sizeUp h h.length := by omega
  have hV2 := hV.2
  have hd2 : Hid (pump h l s = if within s.Weight 0 40000 && within s.Volume 1 (sizeUp h h.length) then (if 24 < (plainOf (stays (sizeUp h h.length) (s :: l))).length then ([], [], 8) else (plainOf (stays (sizeUp h h.length) (s :: l)), plainOf (goes (sizeUp h h.length) (s :: l)), 0)) else ([], [], 2)) := by unfold Hid; rw [hdef.out, if_neg (by simp [h0])]
  have hHL := Lib.hid (hl.below HB0.out)
  have hfew := gc.few
  have hpos := gc.pos
  clear hdef h0 hS hvv hV
  generalize hVV : sizeUp h h.length = V at *
  clear hVV
  have WI := Lib.hid (fun a b c W => fluid_within a b c W)
  generalize pump h l s = res at *
  obtain ⟨M, hM⟩ : ∃ M, M = w.heap.size + 1 + 1 + 1 := ⟨_, rfl⟩
  unfold slugV
  have HSL := Lib.hid hhl
  clear hhl hcl
  generalize h.length = nh at *
  generalize hn : l.length = n at *
  have HN := Lib.hid hn
  clear hn
  go_enter Try.func53, Try.ntmps53
  go_wp2_with fail
  rw [HW0.out]
  go_wp2_with fail
  refine HC.out.mono ?_
  rintro e w1 ⟨rfl, hb1⟩
  have D0 := Lib.hid (B0.out.under hb1)
  have HVW := Lib.hid (HVO.out w1 hb1)
  have D1 := Lib.hid (B1.out.under hb1)
  have D2 := Lib.hid (B2.out.under hb1)
  have D3 := Lib.hid (B3.out.under hb1)
  have HB1 := Lib.hid (HB0.out.trans (hb1.mono HB0.out.size))
  clear hb1 q0 HC HVO B0 B1 B2 B3
  have q0 := hole_box D0.out
  go_wp2_with fail
  refine HVW.out.mono ?_
  rintro e w2 ⟨rfl, hb2⟩
  obtain ⟨w3, hw3⟩ : ∃ w3, w2.alloc (.cells #[.int .i64 V] 2) = w3 := ⟨_, rfl⟩
  have E1 := Lib.hid (show Box w3 (w.heap.size + 1) 39 #[.int .i64 s.Weight, .int .i64 s.Volume] by rw [← hw3]; exact (D1.out.under hb2).alloc _)
  have E2 := Lib.hid (show Box w3 (w.heap.size + 1 + 1) 30 #[.slice none 0 0] by rw [← hw3]; exact (D2.out.under hb2).alloc _)
  have E3 := Lib.hid (show Box w3 (w.heap.size + 1 + 1 + 1) 30 #[.slice none 0 0] by rw [← hw3]; exact (D3.out.under hb2).alloc _)
  have ER := Lib.hid (show Box w3 w2.heap.size 2 #[.int .i64 V] by rw [← hw3]; exact Box.new _ _ _ rfl)
  have hB2 := HB1.out.trans (hb2.mono HB1.out.size)
  have HB3 := Lib.hid (show Below w.heap.size w w3 by rw [← hw3]; exact hB2.alloc hB2.size _)
  have hlt3 : w.heap.size + 1 + 1 + 1 < w2.heap.size := (D3.out.under hb2).lt
  have hs3 : w3.heap.size = w2.heap.size + 1 := by rw [← hw3]; simp
  have HW3 := Lib.hid hw3
  have HS3 := Lib.hid hs3
  clear hw3 hb2 hs3 hB2 D0 D1 D2 D3 HB1 HW0 HB0 HVW q0
  have y0 : w3.cell? ⟨w.heap.size + 1, 0, none⟩ = some (.int .i64 s.Weight) := E1.out.cell 0
  have y1 : w3.cell? ⟨w.heap.size + 1, 1, none⟩ = some (.int .i64 s.Volume) := E1.out.cell 1
  have y2 : w3.cell? ⟨w2.heap.size, 0, none⟩ = some (.int .i64 V) := ER.out.cell 0
  have y3 : w3.cell? ⟨w.heap.size + 1 + 1, 0, none⟩ = some (.slice none 0 0) := E2.out.cell 0
  have y4 : w3.cell? ⟨w.heap.size + 1 + 1 + 1, 0, none⟩ = some (.slice none 0 0) := E3.out.cell 0
  have f3 := E2.out.frozen 0
  have f4 := E3.out.frozen 0
  go_upto_region 5 with fail
  rw [HW3.out]
  cases hw1 : within s.Weight 0 40000
  · have hp : Hid (res = ([], [], 2)) := by unfold Hid; rw [hd2.out, hw1]; rfl
    go_wp2_with (go_at_call 62; refine (fluid_within _ _ _ _).mono ?_; rintro e w' ⟨rfl, rfl⟩; rw [hw1])
    refine bodyPost_ret (results_pump rfl _ _ (w.heap.size + 1 + 1) (w.heap.size + 1 + 1 + 1) none none 0 0 0 0 (.int .i64 2) rfl rfl rfl ?_ ?_) rfl ?_
    · exact ((((E2.out).set_ 0 (.slice none 0 0)).far (by simp) _).cell 0).trans (by simp)
    · exact (((((E3.out).far (by simp) (.slice none 0 0))).set_ 0 (.slice none 0 0)).cell 0).trans (by simp)
    · (try rw [hp.out])
      exact ⟨⟨none, 0, none, 0, rfl, World.ownsRow_nil _ _ _ _, World.ownsRow_nil _ _ _ _⟩, ((HB3.out).setCell (p := ⟨w.heap.size + 1 + 1, 0, none⟩) (by simp; omega) _).setCell (p := ⟨w.heap.size + 1 + 1 + 1, 0, none⟩) (by simp; omega) _⟩
  cases hw2 : within s.Volume 1 V
  · have hp : Hid (res = ([], [], 2)) := by unfold Hid; rw [hd2.out, hw1, hw2]; rfl
    go_wp2_with (go_at_call 62; refine (fluid_within _ _ _ _).mono ?_; rintro e w' ⟨rfl, rfl⟩; first | rw [hw1] | rw [hw2])
    refine bodyPost_ret (results_pump rfl _ _ (w.heap.size + 1 + 1) (w.heap.size + 1 + 1 + 1) none none 0 0 0 0 (.int .i64 2) rfl rfl rfl ?_ ?_) rfl ?_
    · exact ((((E2.out).set_ 0 (.slice none 0 0)).far (by simp) _).cell 0).trans (by simp)
    · exact (((((E3.out).far (by simp) (.slice none 0 0))).set_ 0 (.slice none 0 0)).cell 0).trans (by simp)
    · (try rw [hp.out])
      exact ⟨⟨none, 0, none, 0, rfl, World.ownsRow_nil _ _ _ _, World.ownsRow_nil _ _ _ _⟩, ((HB3.out).setCell (p := ⟨w.heap.size + 1 + 1, 0, none⟩) (by simp; omega) _).setCell (p := ⟨w.heap.size + 1 + 1 + 1, 0, none⟩) (by simp; omega) _⟩
  have hsv : 1 ≤ s.Volume ∧ s.Volume ≤ V := by simpa [within] using hw2
  have hd3 : Hid (res = if 24 < (plainOf (stays V (s :: l))).length then ([], [], 8) else (plainOf (stays V (s :: l)), plainOf (goes V (s :: l)), 0)) := by unfold Hid; rw [hd2.out, hw1, hw2]; rfl
  clear hd2
  have hvols : ∀ i, i < (s :: l).length → 1 ≤ (slg (s :: l) i).Volume ∧ (slg (s :: l) i).Volume ≤ 5242880000 := fun i hi => by
    cases i with
    | zero => rw [slg_zero]; omega
    | succ i =>
      rw [slg_succ]
      have hi' : i < l.length := by simpa using hi
      have h1 := GC.out.v1 i hi'
      have h3 := heldUp_step l i
      have h4 := heldUp_mono GC.out (k := i + 1) hi'
      have h5 := heldUp_mono GC.out (k := i) (by omega)
      have h6 := (GC.out.hole.ups h.length (Nat.le_refl _)).2.2.2.2.2
      omega
  have HPT := Lib.hid (fun k (hk : k ≤ (s :: l).length) => putTo_room V (s :: l) hV0 (fun i hi => by have := hvols i hi; omega) k hk)
  have HVL := Lib.hid hvols
  have HALL := Lib.hid (putTo_all V (s :: l))
  clear hvols
  obtain ⟨S, hS⟩ : ∃ S, s :: l = S := ⟨_, rfl⟩
  have hS0 : slg S 0 = s := by rw [← hS, slg_zero]
  have hSn : S.length = n + 1 := by rw [← hS, List.length_cons, HN.out]
  have hSs : Hid (∀ k, slg S (k + 1) = slg l k) := fun k => by rw [← hS, slg_succ]
  rw [hS] at HPT HVL HALL hd3
  rw [hSn] at HPT HVL HALL
  clear hS
  have HPP : Hid (∀ k W, k ≤ n → PuSt w w3.heap.size w2.heap.size (w.heap.size + 1 + 1) (w.heap.size + 1 + 1 + 1) V S k W → Calls Try.prog 89 #[.agg #[.int .i64 (slg S k).Weight, .int .i64 (slg S k).Volume], .pointer (some ⟨w2.heap.size, 0, none⟩), .pointer (some ⟨w.heap.size + 1 + 1, 0, none⟩), .pointer (some ⟨w.heap.size + 1 + 1 + 1, 0, none⟩)] W fun e W' => (∃ v, e = .returned v) ∧ PuSt w w3.heap.size w2.heap.size (w.heap.size + 1 + 1) (w.heap.size + 1 + 1 + 1) V S (k + 1) W') := fun k W hk h => by
    have p := HPT.out k (by omega)
    have v := HVL.out k (by omega)
    have hs := HS3.out
    exact pump_put h (by omega) (by omega) (by omega) (by omega) (by omega) (by omega) (by omega) (by omega) (by omega) p.1 (by omega) (by omega) (by omega) (by omega) (by omega)
  have PS0 : Hid (PuSt w w3.heap.size w2.heap.size (w.heap.size + 1 + 1) (w.heap.size + 1 + 1 + 1) V S 0 w3) := ⟨.slice none 0 0, .slice none 0 0, ER.out, E2.out, E3.out, ⟨World.ownsRow_nil _ _ _ _, World.ownsRow_nil _ _ _ _, .inl rfl⟩, HB3.out, Nat.le_refl _⟩
  have HC0 := Lib.hid (HPP.out 0 w3 (Nat.zero_le _) PS0.out)
  rw [hS0] at HC0
  have HSL1 : Hid ((putTo V S (n + 1)).2.1.length = n + 1 ∧ (putTo V S (n + 1)).2.2.length = n + 1) := (HPT.out (n + 1) (Nat.le_refl _)).2.2
  rw [HALL.out.1, HALL.out.2] at HSL1
  have HBASE : Hid (w.heap.size + 1 + 1 + 1 < w3.heap.size) := by have := HS3.out; unfold Hid; omega
  clear hSn hS0
  go_wp2_with (first | (go_at_call 62; refine (fluid_within _ _ _ _).mono ?_; rintro e w' ⟨rfl, rfl⟩; first | rw [hw1] | rw [hw2]))
  refine HC0.out.mono ?_
  rintro e w4 ⟨⟨v1, rfl⟩, PS1⟩
  have PK1 := Lib.hid PS1
  clear PS1 y0 y1 y2 y3 y4 f3 f4 E1 E2 E3 ER HW3 PS0 HC0 HPT HVL hw1 hw2 WI
  go_wp2_with fail
  go_loopw [38] (fun s38 wr => ∃ k : Nat, k ≤ n ∧ s38 = .int .i64 k ∧ Hid (PuSt w w3.heap.size w2.heap.size (w.heap.size + 1 + 1) (w.heap.size + 1 + 1 + 1) V S (k + 1) wr)) (fun s38 _ => n - (intOf s38).toNat)
  case atStart => exact ⟨0, Nat.zero_le _, rfl, PK1.out⟩
  case round =>
    obtain ⟨k, hk, rfl, PK⟩ := hrel
    by_cases hlt : k < n
    · have BW : Below w.heap.size w wr := by obtain ⟨_, _, _, _, _, _, h, _⟩ := PK.out; exact h
      obtain ⟨c0, c1⟩ := HCL.out k hlt
      have d0 := oldCell BW hbl c0
      have d1 := oldCell BW hbl c1
      have hbw : b < wr.heap.size := by have := BW.size; omega
      have t0 : decide (k < n) = true := decide_eq_true hlt
      have b1 : (k : Int) < (n : Int) := by omega
      have b2 : (0 : Int) ≤ (k : Int) := by omega
      have HCK := Lib.hid (fun W (hW : Below wr.heap.size wr W) => HPP.out (k + 1) W (by omega) (PK.out.under hW))
      rw [hSs.out] at HCK
      clear c0 c1 BW
      generalize slg l k = s at *
      go_wp2_with fail
      refine (HCK.out _ ((Below.refl _ _).alloc (Nat.le_refl _) _)).mono ?_
      rintro e w5 ⟨⟨v5, rfl⟩, PS5⟩
      have PK5 := Lib.hid PS5
      clear PS5
      go_wp2_with fail
      go_roundw
      case rel => exact ⟨k + 1, hlt, by go_num, PK5.out⟩
      case measure => simp [intOf]; omega
    · obtain rfl : k = n := by omega
      have t0 : decide (k < k) = false := decide_eq_false hlt
      obtain ⟨vn, vo, c1, c2, c3, hr, hb, hs⟩ := PK.out
      rw [HALL.out.1, HALL.out.2] at hr
      obtain ⟨A1, a1, rfl, _, _⟩ := own_form hr.o1
      obtain ⟨A2, a2, rfl, _, _⟩ := own_form hr.o2
      generalize stays V S = st at *
      generalize goes V S = gs at *
      have OO := Lib.hid hr
      have HP1 := Lib.hid (fun W (hW : Below wr.heap.size wr W) => fluid_Plain st A1 a1 W (own_slugs (own_under OO.out.o1 hW)) (by have := HSL1.out.1; omega))
      have HP2 := Lib.hid (fun W (hW : Below wr.heap.size wr W) => fluid_Plain gs A2 a2 W (own_slugs (own_under OO.out.o2 hW)) (by have := HSL1.out.2; omega))
      have C2 := Lib.hid c2
      have C3 := Lib.hid c3
      have HBW := Lib.hid hb
      have HSW := Lib.hid hs
      clear hr c1 c2 c3 hb hs PK HPP PK1 HSL1 HALL
      go_upto_region 14 with fail
      have HD := Lib.hid (Below.refl wr.heap.size wr).drew
      go_cut [] (fun wx => ∃ X1 x1 X2 x2, Hid (PuEnd w w3.heap.size (w.heap.size + 1 + 1) (w.heap.size + 1 + 1 + 1) (.slice X1 (plainOf st).length x1) (.slice X2 (plainOf gs).length x2) (.slice X1 (plainOf st).length x1) (.slice X2 (plainOf gs).length x2) (plainOf st) (plainOf gs) wx))
      case first =>
        have SS : (fun w' : World => w'.cell? ⟨w.heap.size + 1 + 1, 0, none⟩ = some (.slice A1 st.length a1) ∧ w'.cell? ⟨w.heap.size + 1 + 1 + 1, 0, none⟩ = some (.slice A2 gs.length a2)) wr.drew := ⟨C2.out.cell 0, C3.out.cell 0⟩
        refine AnyMid.begin (q := 4) (S := (fun (f : Bool) (w' : World) => f = false → w'.cell? ⟨w.heap.size + 1 + 1, 0, none⟩ = some (.slice A1 st.length a1) ∧ w'.cell? ⟨w.heap.size + 1 + 1 + 1, 0, none⟩ = some (.slice A2 gs.length a2))) (Z := fun i => i == 5) mixed ?_
        refine AnyMid.take (fun w' : World => w'.cell? ⟨w.heap.size + 1 + 1, 0, none⟩ = some (.slice A1 st.length a1) ∧ w'.cell? ⟨w.heap.size + 1 + 1 + 1, 0, none⟩ = some (.slice A2 gs.length a2)) (i := 0) (v := .slice A1 st.length a1) [5] 6 (by simp) (fun _ h => h rfl) (.inl (by decide +kernel)) (fun _ => SS) rfl (by decide +kernel) (fun _ _ _ h => h) (Or.inl ⟨by simp [Region.wanted], fun w' hw' => by (obtain ⟨s0, s1⟩ := hw'; go_simp)⟩) ?_
        refine AnyMid.take (fun w' : World => w'.cell? ⟨w.heap.size + 1 + 1, 0, none⟩ = some (.slice A1 st.length a1) ∧ w'.cell? ⟨w.heap.size + 1 + 1 + 1, 0, none⟩ = some (.slice A2 gs.length a2)) (i := 2) (v := .slice A2 gs.length a2) [5] 6 (by simp) (fun _ h => h rfl) (.inl (by decide +kernel)) (fun _ => SS) rfl (by decide +kernel) (fun _ _ _ h => h) (Or.inl ⟨by simp [Region.wanted], fun w' hw' => by (obtain ⟨s0, s1⟩ := hw'; go_simp)⟩) ?_
        refine AnyMid.only (i := 1) (by decide +kernel) rfl rfl (fun K hK => ?_)
        go_wp2_with fail
        refine (HP1.out _ HD.out).mono ?_
        rintro e W1 ⟨⟨X1, x1, rfl, ho1⟩, hb1⟩
        refine hK _ _ (fun _ _ => ⟨(C2.out.drew.under hb1).cell 0, (C3.out.drew.under hb1).cell 0⟩) ?_
        clear hK K
        refine AnyMid.only (i := 3) (by decide +kernel) rfl rfl (fun K hK => ?_)
        go_wp2_with fail
        refine (HP2.out _ (HD.out.trans (hb1.mono HD.out.size))).mono ?_
        rintro e W2 ⟨⟨X2, x2, rfl, ho2⟩, hb2⟩
        refine hK _ _ (fun _ _ => ⟨((C2.out.drew.under hb1).under hb2).cell 0, ((C3.out.drew.under hb1).under hb2).cell 0⟩) ?_
        clear hK K
        have hd1 := HBW.out.trans (HD.out.mono HBW.out.size)
        have hd2 := hd1.trans (hb1.mono hd1.size)
        have PE := Lib.hid (show PuEnd w w3.heap.size (w.heap.size + 1 + 1) (w.heap.size + 1 + 1 + 1) (.slice X1 (plainOf st).length x1) (.slice X2 (plainOf gs).length x2) (.slice A1 st.length a1) (.slice A2 gs.length a2) (plainOf st) (plainOf gs) W2 from ⟨(C2.out.drew.under hb1).under hb2, (C3.out.drew.under hb1).under hb2, own_le (own_under ho1 hb2) (Nat.le_trans HSW.out HD.out.size), own_le ho2 (Nat.le_trans HSW.out (Nat.le_trans HD.out.size hb1.size)), hd2.trans (hb2.mono hd2.size), by omega, by have := HBASE.out; omega, HBASE.out, by omega, by omega⟩)
        clear hd1 hd2 hb1 hb2 ho1 ho2
        have j0 := PE.out.n1.frozen 0
        have j1 := PE.out.n2.frozen 0
        have j2 := PE.out.n1.cell 0
        have j3 := PE.out.n2.cell 0
        simp only [List.getElem?_toArray, List.getElem?_cons_zero] at j2 j3
        refine AnyMid.only (i := 4) (by decide +kernel) rfl rfl (fun K hK => ?_)
        go_wp2_with fail
        refine hK _ _ (fun _ h => (by cases h)) ?_
        clear hK K
        refine AnyMid.only (i := 5) (by decide +kernel) rfl rfl (fun K hK => ?_)
        go_wp2_with fail
        refine hK _ _ (fun h => (by cases h)) ?_
        clear hK K
        refine AnyMid.done (by decide +kernel) ?_
        go_wp2_with fail
        go_meet
        exact ⟨_, _, _, _, (PE.out.put1 _).put2 _⟩
      case rest =>
        obtain ⟨X1, x1, X2, x2, PE⟩ := hcut
        have j0 := PE.out.n1.frozen 0
        have j1 := PE.out.n2.frozen 0
        have j2 := PE.out.n1.cell 0
        have j3 := PE.out.n2.cell 0
        simp only [List.getElem?_toArray, List.getElem?_cons_zero] at j2 j3
        clear HP1 HP2 OO C2 C3 HBW HSW HD
        generalize (plainOf st) = p1 at *
        generalize (plainOf gs) = p2 at *
        by_cases hf : 24 < p1.length
        · have hp : Hid (res = ([], [], 8)) := by unfold Hid; rw [hd3.out, if_pos hf]
          have t1 : decide ((24 : Int) < (p1.length : Int)) = true := decide_eq_true (by omega)
          have t2 : decide (24 < p1.length) = true := decide_eq_true hf
          clear hd3 hf
          go_wp2_with fail
          refine bodyPost_ret (results_pump rfl _ _ (w.heap.size + 1 + 1) (w.heap.size + 1 + 1 + 1) none none 0 0 0 0 (.int .i64 8) rfl rfl rfl ?_ ?_) rfl ?_
          · exact (((PE.out.put1 _).put2 _).n1.cell 0).trans (by simp)
          · exact (((PE.out.put1 _).put2 _).n2.cell 0).trans (by simp)
          · (try rw [hp.out])
            exact ⟨⟨none, 0, none, 0, rfl, World.ownsRow_nil _ _ _ _, World.ownsRow_nil _ _ _ _⟩, ((PE.out.put1 _).put2 _).b⟩
        · have hp : Hid (res = (p1, p2, 0)) := by unfold Hid; rw [hd3.out, if_neg hf]
          have t1 : decide ((24 : Int) < (p1.length : Int)) = false := decide_eq_false (by omega)
          have t2 : decide (24 < p1.length) = false := decide_eq_false hf
          clear hd3 hf
          go_upto_region 17 with fail
          go_region
          all_goals
            go_wp2_with fail
            refine bodyPost_ret (results_pump rfl _ _ (w.heap.size + 1 + 1) (w.heap.size + 1 + 1 + 1) X1 X2 p1.length x1 p2.length x2 (.int .i64 0) rfl rfl rfl ?_ ?_) rfl ?_
            · exact (((PE.out.put1 _).put2 _).drew.n1.cell 0).trans (by simp)
            · exact (((PE.out.put1 _).put2 _).drew.n2.cell 0).trans (by simp)
            · (try rw [hp.out])
              have hbs := HBASE.out
              exact ⟨⟨X1, x1, X2, x2, rfl, own_le ((PE.out.put1 _).put2 _).drew.o1 (by omega), own_le ((PE.out.put1 _).put2 _).drew.o2 (by omega)⟩, ((PE.out.put1 _).put2 _).drew.b⟩

end Go.Proofs.Ytgcfplkfclapiaa

/- Walks of the reference of layer 3: the height line of a hole; in which segment a place is. -/
namespace Mpl
theorem passed_le (l : List Seg) (u : Int) (k m : Nat) : k ≤ passed l u k m ∧ passed l u k m ≤ k + m := by
  induction m generalizing k with
  | zero => simp [passed]
  | succ m ih =>
    rw [passed]
    split
    · omega
    · have := ih (k + 1); omega
theorem volume_good {l : List Seg} (h : GoodHole l) : volumeOf l = sizeUp l l.length := by unfold volumeOf; rw [if_pos ((checkHole_iff l).2 h)]
end Mpl
namespace Go.Proofs.Ytgcfplkfclapiaa
open Go.RowKit Go.Shelf Mpl

theorem ref_hole_bad {l : List Seg} {u : Int} (h : inHole l u = false) : whereOf l u = -1 := by unfold whereOf; rw [h]; rfl

set_option maxHeartbeats 4000000 in
set_option maxRecDepth 100000 in
theorem ref03_Where (v0 : Value) (l : List Seg) (u : Int) (w : World) (hv : HoleV w w.heap.size v0 l) :
    Calls Try.prog 34 #[v0, .int .i64 u] w fun e w' => e = .returned (.int .i64 (whereOf l u)) ∧ Below w.heap.size w w' := by
  have hvv := hv
  obtain ⟨A, c, rfl, hS⟩ := hv
  have HA := hvv.alloc (.cells #[.slice A l.length c] 25)
  have HC := Lib.hid (ref03_CheckHole _ l _ HA)
  have hba : Below w.heap.size w (w.alloc (.cells #[.slice A l.length c] 25)) := (Below.refl _ _).alloc (Nat.le_refl _) _
  have b0 : Box (w.alloc (.cells #[.slice A l.length c] 25)) w.heap.size 25 #[.slice A l.length c] := Box.new _ _ _ rfl
  have HB := Lib.hid b0
  have HBA := Lib.hid hba
  have HV := Lib.hid (fun w' (hb : Below (w.alloc (.cells #[.slice A l.length c] 25)).heap.size (w.alloc (.cells #[.slice A l.length c] 25)) w') => ref03_Volume _ l w' (HA.below hb))
  have hbad := Lib.hid (fun h => ref_hole_bad (l := l) (u := u) h)
  have hi := Lib.hid (checkHole_iff l)
  have hdi : Hid (inHole l u = (decide (checkHole l = 0) && within u 0 (sizeUp l l.length))) := rfl
  have hwd : Hid (whereOf l u = if inHole l u then (passed l u 0 l.length : Int) - 1 else -1) := rfl
  clear hvv HA hba b0
  generalize whereOf l u = res at *
  by_cases h0 : checkHole l = 0
  case neg =>
    have hr := Lib.hid (hbad.out (by rw [hdi.out, decide_eq_false h0]; rfl))
    have hz : (checkHole l != 0) = true := by simpa using h0
    clear h0 hS hbad hdi hwd
    generalize checkHole l = ch at *
    generalize l.length = n at *
    go_enter Try.func34, Try.ntmps34
    go_wp2_with fail
    refine HC.out.mono ?_
    rintro e w1 ⟨rfl, hb1⟩
    go_wp2_with fail
    go_ret
    exact ⟨ret_int hr.out.symm, HBA.out.trans (hb1.mono HBA.out.size)⟩
  have hg := hi.out.1 h0
  have HG := Lib.hid hg
  have hvol := volume_good hg
  rw [hvol] at HV
  rw [h0] at HC
  by_cases hu0 : 0 ≤ u
  case neg =>
    have hr := Lib.hid (hbad.out (by rw [hdi.out]; simp [within, hu0]))
    have hz : decide (u < 0) = true := decide_eq_true (by omega)
    clear h0 hS hbad hdi hwd hi hvol hg
    generalize l.length = n at *
    go_enter Try.func34, Try.ntmps34
    go_wp2_with fail
    refine HC.out.mono ?_
    rintro e w1 ⟨rfl, hb1⟩
    go_wp2_with fail
    go_ret
    exact ⟨ret_int hr.out.symm, HBA.out.trans (hb1.mono HBA.out.size)⟩
  have hz0 : decide (u < 0) = false := decide_eq_false (by omega)
  obtain ⟨b, off, rfl, hb, hc⟩ := hS hg.pos
  have HCC := Lib.hid hc
  have hfew := hg.few
  have hpos := hg.pos
  clear hS hc
  by_cases hu1 : u ≤ sizeUp l l.length
  case neg =>
    have hr := Lib.hid (hbad.out (by rw [hdi.out]; simp [within, hu1]))
    have hz : decide (sizeUp l l.length < u) = true := decide_eq_true (by omega)
    clear h0 hbad hdi hwd hi hvol hg
    generalize sizeUp l l.length = V at *
    generalize l.length = n at *
    go_enter Try.func34, Try.ntmps34
    go_wp2_with fail
    refine HC.out.mono ?_
    rintro e w1 ⟨rfl, hb1⟩
    have BX1 := Lib.hid (HB.out.under hb1)
    have q0 := hole_box BX1.out
    have HB1 := Lib.hid hb1
    clear hb1
    go_wp2_with fail
    refine (HV.out _ HB1.out).mono ?_
    rintro e w2 ⟨rfl, hb2⟩
    go_wp2_with fail
    go_ret
    have h1 := HBA.out.trans (HB1.out.mono HBA.out.size)
    exact ⟨ret_int hr.out.symm, h1.trans (hb2.mono h1.size)⟩
  have hz : decide (sizeUp l l.length < u) = false := decide_eq_false (by omega)
  have hin : inHole l u = true := by rw [hdi.out, decide_eq_true h0]; simp [within]; omega
  have hres : Hid (res = (passed l u 0 l.length : Int) - 1) := by unfold Hid; rw [hwd.out, hin]; rfl
  -- the answer, from segment k on
  have HSTOP := Lib.hid (fun (k : Nat) (hk : k < l.length) (h1 : passed l u k (l.length - k) = passed l u 0 l.length) (h2 : sizeUp l k ≤ u) (h3 : u < sizeUp l (k + 1)) => (by
    rw [hres.out, ← h1, show l.length - k = (l.length - (k + 1)) + 1 by omega, passed_go l u k _ (by omega), passed_stop l u (k + 1) _ h3]; omega : res = (k : Int)))
  have HNEXT := Lib.hid (fun (k : Nat) (hk : k < l.length) (h1 : passed l u k (l.length - k) = passed l u 0 l.length) (h2 : sizeUp l k ≤ u) => (by
    rw [← h1, show l.length - k = (l.length - (k + 1)) + 1 by omega, passed_go l u k _ (by omega)] : passed l u (k + 1) (l.length - (k + 1)) = passed l u 0 l.length))
  have HEND := Lib.hid (fun (h1 : passed l u l.length (l.length - l.length) = passed l u 0 l.length) => (by
    rw [hres.out, ← h1, Nat.sub_self]; rfl : res = (l.length : Int) - 1))
  clear h0 hbad hdi hwd hi hvol hg hin hres
  generalize hn : l.length = n at *
  have HN := Lib.hid hn
  clear hn
  go_enter Try.func34, Try.ntmps34
  go_wp2_with fail
  refine HC.out.mono ?_
  rintro e w1 ⟨rfl, hb1⟩
  have BX1 := Lib.hid (HB.out.under hb1)
  have q0 := hole_box BX1.out
  have HB1 := Lib.hid hb1
  clear hb1
  go_wp2_with fail
  refine (HV.out _ HB1.out).mono ?_
  rintro e w2 ⟨rfl, hb2⟩
  have BX2 := Lib.hid (BX1.out.under hb2)
  have h1 := HBA.out.trans (HB1.out.mono HBA.out.size)
  have HB2 := Lib.hid (h1.trans (hb2.mono h1.size))
  clear hb2 h1 q0 HB1
  go_wp2_with fail
  go_loopw [5, 6] (fun s5 s6 wr => ∃ (k : Nat), k ≤ n ∧ s6 = .int .i64 k ∧ s5 = .int .i64 (sizeUp l k) ∧ Hid (sizeUp l k ≤ u) ∧ Hid (passed l u k (n - k) = passed l u 0 n) ∧ Hid (Box wr w.heap.size 25 #[.slice (some ⟨b, off, none⟩) n c]) ∧ Hid (Below w.heap.size w wr)) (fun _ s6 _ => n - (intOf s6).toNat)
  case atStart => exact ⟨0, Nat.zero_le _, rfl, rfl, (by unfold Hid; simp [sizeUp, sumFrom]; exact hu0), rfl, BX2, HB2⟩
  case round =>
    obtain ⟨k, hk, rfl, rfl, hnl, hps, BX, BW⟩ := hrel
    have hsz := BW.out.size
    have q0 := hole_box BX.out
    by_cases hlt : k < n
    · obtain ⟨c0, c1, c2, c3⟩ := HCC.out k hlt
      have t0 : decide (k < n) = true := decide_eq_true hlt
      have d0 := oldCell BW.out hb c0
      have d2 := oldCell BW.out hb c2
      have hbw : b < wr.heap.size := by omega
      have hst := Lib.hid (sizeUp_step l k)
      have hu := HG.out.ups k (by rw [HN.out]; omega)
      obtain ⟨_, _, _, _, u5, u6⟩ := hu
      have hs2 := HG.out.seg (k := k) (by rw [HN.out]; exact hlt)
      obtain ⟨_, z1, z2⟩ := hs2
      have hse : Hid (segSize (sg l k) = (sg l k).Long * (sg l k).Area) := rfl
      have ST := Lib.hid (HSTOP.out k hlt hps.out hnl.out)
      have NX := Lib.hid (HNEXT.out k hlt hps.out hnl.out)
      rw [hst.out] at ST
      clear c0 c1 c2 c3
      generalize hSk : sizeUp l k = S at *
      generalize hS1 : sizeUp l (k + 1) = S1 at *
      have HS1 := Lib.hid hS1
      clear hSk hS1
      generalize segSize (sg l k) = z at *
      generalize sg l k = s at *
      have hw1 : IntKind.i64.wrap (s.Long * s.Area) = z := by rw [← hse.out]; exact IntWalk.i64_in _ (by omega)
      have hw2 : IntKind.i64.wrap (S + z) = S + z := IntWalk.i64_in _ (by omega)
      have b1 : (k : Int) < (n : Int) := by omega
      have b2 : (0 : Int) ≤ (k : Int) := by omega
      by_cases hgo : u < S + z
      · have t1 : decide (u < S + z) = true := decide_eq_true hgo
        have hr := Lib.hid (ST.out hgo)
        go_wp2_with fail
        go_quiet (fail)
        go_wp2_with fail
        go_ret
        exact ⟨ret_int hr.out.symm, belowDrewN BW.out _⟩
      · have t1 : decide (u < S + z) = false := decide_eq_false hgo
        have hng : Hid (sizeUp l (k + 1) ≤ u) := by unfold Hid; rw [HS1.out, hst.out]; omega
        clear hgo
        go_wp2_with fail
        go_quiet (fail)
        go_wp2_with fail
        go_roundw
        case rel => exact ⟨k + 1, hlt, by go_num, by rw [HS1.out, hst.out], hng, NX, BX.out.drewN _, belowDrewN BW.out _⟩
        case measure => simp [intOf]; omega
    · obtain rfl : k = n := by omega
      have t0 : decide (k < k) = false := decide_eq_false hlt
      have hr := Lib.hid (HEND.out hps.out)
      go_wp2_with fail
      go_ret
      exact ⟨ret_int hr.out.symm, BW.out⟩

end Go.Proofs.Ytgcfplkfclapiaa

/- Walks of the reference of layer 3: which columns are valid. -/
namespace Go.Proofs.Ytgcfplkfclapiaa
open Go.RowKit Go.Shelf Mpl

set_option maxHeartbeats 4000000 in
set_option maxRecDepth 100000 in
theorem refColumn_walk (h : List Seg) (l : List Slug) (vh : Value) (b off c : Nat) (w : World) (hg : GoodHole h) (hb : b < w.heap.size)
    (hch : ∀ W, Below w.heap.size w W → Calls Try.prog 28 #[vh] W fun e W' => e = .returned (.int .i64 0) ∧ Below W.heap.size W W')
    (hvol : ∀ W, Below w.heap.size w W → Calls Try.prog 29 #[vh] W fun e W' => e = .returned (.int .i64 (sizeUp h h.length)) ∧ Below W.heap.size W W')
    (hc : ∀ i, i < l.length → w.cell? ⟨b, off + i * 2, none⟩ = some (.int .i64 (slg l i).Weight) ∧ w.cell? ⟨b, off + i * 2 + 1, none⟩ = some (.int .i64 (slg l i).Volume))
    (h0 : 0 < l.length) (h24 : l.length ≤ 24) (hvh : ∃ A n c', vh = .agg #[.slice A n c']) :
    Calls Try.prog 90 #[vh, .slice (some ⟨b, off, none⟩) l.length c] w fun e w' => e = .returned (.int .i64 (checkSlugs (sizeUp h h.length) l)) ∧ Below w.heap.size w w' := by
  obtain ⟨A, nh, ch, rfl⟩ := hvh
  have HC := Lib.hid hc
  have HCH := Lib.hid hch
  have HVO := Lib.hid hvol
  have HBAD := Lib.hid (fun k hk hf => slugs_bad (sizeUp h h.length) l h0 h24 (k := k) hk hf)
  have HGOOD := Lib.hid (slugs_good (sizeUp h h.length) l h0 h24)
  have hr := hg.ups h.length (Nat.le_refl _)
  have hr0 : 0 ≤ sizeUp h h.length := by omega
  have hr1 : sizeUp h h.length ≤ 5242880000 := by omega
  clear hc hch hvol hr hg
  generalize sizeUp h h.length = room at *
  generalize hres : checkSlugs room l = res at *
  clear hres
  generalize hn : l.length = n at *
  have HN := Lib.hid hn
  clear hn
  have hz : ((n : Int) == 0) = false := beq_eq_false_iff_ne.2 (by omega)
  have hz2 : decide ((24 : Int) < (n : Int)) = false := decide_eq_false (by omega)
  have b0 : Box (w.alloc (.cells #[.slice A nh ch] 25)) w.heap.size 25 #[.slice A nh ch] := Box.new _ _ _ rfl
  have hB0 : Below w.heap.size w (w.alloc (.cells #[.slice A nh ch] 25)) := (Below.refl _ _).alloc (Nat.le_refl _) _
  have B0 := Lib.hid b0
  have HB0 := Lib.hid hB0
  clear b0 hB0
  go_enter Try.func90, Try.ntmps90
  go_wp2_with fail
  refine (HCH.out _ HB0.out).mono ?_
  rintro e w1 ⟨rfl, hb1⟩
  have B1 := Lib.hid (B0.out.under hb1)
  have HB1 := Lib.hid (HB0.out.trans (hb1.mono HB0.out.size))
  clear hb1
  go_wp2_with fail
  go_loopw [6] (fun s6 wr => ∃ k : Nat, k ≤ n ∧ s6 = .int .i64 k ∧ Hid (∀ i, i < k → fairSlug (slg l i) = true) ∧ Hid (Below w1.heap.size w1 wr)) (fun s6 _ => n - (intOf s6).toNat)
  case atStart => exact ⟨0, Nat.zero_le _, rfl, fun i hi => absurd hi (by omega), Below.refl _ _⟩
  case round =>
    obtain ⟨k, hk, rfl, hf, BW1⟩ := hrel
    have BW := Lib.hid (HB1.out.trans (BW1.out.mono HB1.out.size))
    have hsz := BW.out.size
    by_cases hlt : k < n
    · obtain ⟨c0, c1⟩ := HC.out k hlt
      have d0 := oldCell BW.out hb c0
      have d1 := oldCell BW.out hb c1
      clear c0 c1
      have b1 : (k : Int) < (n : Int) := by omega
      have b2 : (0 : Int) ≤ (k : Int) := by omega
      have t0 : decide (k < n) = true := decide_eq_true hlt
      have hbad := Lib.hid (HBAD.out k hlt)
      have hx : Hid (fairSlug (slg l k) = true → (∀ i, i < k + 1 → fairSlug (slg l i) = true)) := fun h i hi => by
        by_cases e : i = k
        · rw [e]; exact h
        · exact hf.out i (by omega)
      have hfs : Hid (fairSlug (slg l k) = true ↔ (0 ≤ (slg l k).Weight ∧ (slg l k).Weight ≤ 40000) ∧ 1 ≤ (slg l k).Volume) := by simp [Hid, fairSlug, within]
      generalize slg l k = s at *
      by_cases h1 : s.Weight < 0
      · have hr2 := Lib.hid (hbad.out (by cases e : fairSlug s; rfl; have := hfs.out.1 e; omega))
        have e1 : decide (s.Weight < 0) = true := decide_eq_true h1
        clear hx hfs hbad
        go_wp2_with fail
        go_ret
        exact ⟨ret_int hr2.out.symm, BW.out⟩
      have e1 : decide (s.Weight < 0) = false := decide_eq_false h1
      by_cases h2 : 40000 < s.Weight
      · have hr2 := Lib.hid (hbad.out (by cases e : fairSlug s; rfl; have := hfs.out.1 e; omega))
        have e2 : decide (40000 < s.Weight) = true := decide_eq_true h2
        clear hx hfs hbad
        go_wp2_with fail
        go_ret
        exact ⟨ret_int hr2.out.symm, BW.out⟩
      have e2 : decide (40000 < s.Weight) = false := decide_eq_false h2
      by_cases h3 : s.Volume < 1
      · have hr2 := Lib.hid (hbad.out (by cases e : fairSlug s; rfl; have := hfs.out.1 e; omega))
        have e3 : decide (s.Volume < 1) = true := decide_eq_true h3
        clear hx hfs hbad
        go_wp2_with fail
        go_ret
        exact ⟨ret_int hr2.out.symm, BW.out⟩
      have e3 : decide (s.Volume < 1) = false := decide_eq_false h3
      have HX := Lib.hid (hx.out (hfs.out.2 (by omega)))
      clear hx hfs hbad
      go_wp2_with fail
      go_roundw
      case rel => exact ⟨k + 1, hlt, by go_num, HX, BW1.out⟩
      case measure => simp [intOf]; omega
    · obtain rfl : k = n := by omega
      have t0 : decide (k < k) = false := decide_eq_false hlt
      have hfill := Lib.hid (HGOOD.out hf.out)
      have q0 := hole_load (B1.out.under BW1.out)
      go_wp2_with fail
      refine (HVO.out _ BW.out).mono ?_
      rintro e w2 ⟨rfl, hb2⟩
      have HB2 := Lib.hid (BW.out.trans (hb2.mono BW.out.size))
      clear hb2 q0
      go_wp2_with fail
      go_loopw [7, 8] (fun s7 s8 wx => ∃ (t : Nat) (left : Int), t ≤ k ∧ s8 = .int .i64 t ∧ s7 = .int .i64 left ∧ Hid (0 ≤ left ∧ left ≤ 5242880000) ∧ Hid (fill left (l.drop t) = res) ∧ Hid (Below w.heap.size w wx)) (fun _ s8 _ => k - (intOf s8).toNat)
      case atStart => exact ⟨0, room, Nat.zero_le _, rfl, rfl, ⟨hr0, hr1⟩, by unfold Hid; rw [hfill.out, List.drop_zero], HB2⟩
      case round =>
        obtain ⟨t, left, ht, rfl, rfl, hl, hfl, BX⟩ := hrel
        have hsx := BX.out.size
        obtain ⟨hl0, hl1⟩ := hl.out
        by_cases hlt2 : t < k
        · obtain ⟨c0, c1⟩ := HC.out t hlt2
          have d0 := oldCell BX.out hb c0
          have d1 := oldCell BX.out hb c1
          have t1 : decide (t < k) = true := decide_eq_true hlt2
          have b1 : (t : Int) < (k : Int) := by omega
          have b2 : (0 : Int) ≤ (t : Int) := by omega
          have hst := Lib.hid (fill_step l left t (by rw [HN.out]; exact hlt2))
          have hv1 : 1 ≤ (slg l t).Volume := by
            have := hf.out t hlt2
            simp [fairSlug] at this
            exact this.2
          clear c0 c1
          generalize slg l t = s at *
          by_cases h1 : left < s.Volume
          · have hd : decide (left < s.Volume) = true := decide_eq_true h1
            have hr2 := Lib.hid (show res = 5 by rw [← hfl.out, hst.out, if_pos h1])
            go_wp2_with fail
            go_ret
            exact ⟨ret_int hr2.out.symm, BX.out⟩
          · have hd : decide (left < s.Volume) = false := decide_eq_false h1
            have hr2 := Lib.hid (show fill (left - s.Volume) (l.drop (t + 1)) = res by rw [← hfl.out, hst.out, if_neg h1])
            go_wp2_with fail
            go_roundw
            case rel => exact ⟨t + 1, left - s.Volume, hlt2, by go_num, rfl, ⟨by omega, by omega⟩, hr2, BX.out⟩
            case measure => simp [intOf]; omega
        · have hr2 := Lib.hid (show res = if 0 < left then 6 else 0 by rw [← hfl.out, List.drop_eq_nil_of_le (by rw [HN.out]; omega), fill])
          have t1 : decide (t < k) = false := decide_eq_false hlt2
          by_cases h1 : 0 < left
          · have hd : decide (0 < left) = true := decide_eq_true h1
            rw [if_pos h1] at hr2
            go_wp2_with fail
            go_ret
            exact ⟨ret_int hr2.out.symm, BX.out⟩
          · have hd : decide (0 < left) = false := decide_eq_false h1
            rw [if_neg h1] at hr2
            go_wp2_with fail
            go_ret
            exact ⟨ret_int hr2.out.symm, BX.out⟩

set_option maxHeartbeats 1000000 in
theorem ref03_CheckColumn (vh : Value) (h : List Seg) (l : List Slug) (A : Option Addr) (c : Nat) (w : World) (hv : HoleV w w.heap.size vh h) (hl : Slugs w w.heap.size A l) (hlm : l.length ≤ maxLen) :
    Calls Try.prog 90 #[vh, .slice A l.length c] w fun e w' => e = .returned (.int .i64 (checkColumn h l)) ∧ Below w.heap.size w w' := by
  have hvv := hv
  obtain ⟨AH, cH, rfl, hS⟩ := hv
  unfold maxLen at hlm
  have hdef : Hid (checkColumn h l = if checkHole h ≠ 0 then checkHole h else checkSlugs (sizeUp h h.length) l) := rfl
  have HCH := Lib.hid (fun W (hW : Below w.heap.size w W) => ref03_CheckHole _ h W (hvv.up hW hW.size))
  by_cases h0 : checkHole h = 0
  · have hg := (checkHole_iff h).1 h0
    rw [if_neg (by simpa using h0)] at hdef
    rw [h0] at HCH
    by_cases h1 : l.length = 0
    · have hr : Hid (checkColumn h l = 6) := by unfold Hid; rw [hdef.out, checkSlugs, if_pos h1]
      rw [h1]
      have hz : (((0 : Nat) : Int) == 0) = true := by simp
      have hB := Lib.hid ((Below.refl w.heap.size w).alloc (Nat.le_refl _) (.cells #[.slice AH h.length cH] 25))
      clear h1 hdef h0 hg hvv hS hl
      generalize h.length = n at *
      go_enter Try.func90, Try.ntmps90
      go_wp2_with fail
      refine (HCH.out _ hB.out).mono ?_
      rintro e w1 ⟨rfl, hb1⟩
      go_wp2_with fail
      go_ret
      exact ⟨ret_int hr.out.symm, hB.out.trans (hb1.mono hB.out.size)⟩
    · by_cases h2 : 24 < l.length
      · have hr : Hid (checkColumn h l = 8) := by unfold Hid; rw [hdef.out, checkSlugs, if_neg h1, if_pos h2]
        have hB := Lib.hid ((Below.refl w.heap.size w).alloc (Nat.le_refl _) (.cells #[.slice AH h.length cH] 25))
        clear hdef h0 hg hvv hS hl
        generalize h.length = n at *
        generalize l.length = m at *
        have hz : ((m : Int) == 0) = false := beq_eq_false_iff_ne.2 (by omega)
        have hz2 : decide ((24 : Int) < (m : Int)) = true := decide_eq_true (by omega)
        go_enter Try.func90, Try.ntmps90
        go_wp2_with fail
        refine (HCH.out _ hB.out).mono ?_
        rintro e w1 ⟨rfl, hb1⟩
        go_wp2_with fail
        go_ret
        exact ⟨ret_int hr.out.symm, hB.out.trans (hb1.mono hB.out.size)⟩
      · obtain ⟨b, off, rfl, hb, hc⟩ := hl (by omega)
        have := refColumn_walk h l _ b off c w hg hb HCH.out (fun W hW => (by have := ref03_Volume _ h W (hvv.up hW hW.size); rw [volume_good hg] at this; exact this)) hc (by omega) (by omega) ⟨_, _, _, rfl⟩
        rw [← hdef.out] at this
        exact this
  · rw [if_pos h0] at hdef
    have hz : (checkHole h != 0) = true := by simpa using h0
    have hB := Lib.hid ((Below.refl w.heap.size w).alloc (Nat.le_refl _) (.cells #[.slice AH h.length cH] 25))
    clear h0 hvv hS hl
    generalize checkHole h = ch at *
    generalize h.length = n at *
    generalize l.length = m at *
    go_enter Try.func90, Try.ntmps90
    go_wp2_with fail
    refine (HCH.out _ hB.out).mono ?_
    rintro e w1 ⟨rfl, hb1⟩
    go_wp2_with fail
    go_ret
    exact ⟨ret_int hdef.out.symm, hB.out.trans (hb1.mono hB.out.size)⟩

end Go.Proofs.Ytgcfplkfclapiaa

/- Walks of the reference of layer 3: a plain column. -/
namespace Go.Proofs.Ytgcfplkfclapiaa
open Go.RowKit Go.Shelf Mpl

set_option maxHeartbeats 4000000 in
set_option maxRecDepth 100000 in
theorem ref03_Plain (l : List Slug) (A : Option Addr) (c : Nat) (w : World) (hl : Slugs w w.heap.size A l) (hm : l.length ≤ 1000) :
    Calls Try.prog 91 #[.slice A l.length c] w fun e w' => (∃ A' c', e = .returned (.slice A' (plainOf l).length c') ∧ w'.ownsRow w.heap.size 39 2 (.slice A' (plainOf l).length c') (plainOf l).length ((plainOf l).flatMap slugC)) ∧ Below w.heap.size w w' := by
  have HL := Lib.hid hl
  have HST := Lib.hid (fun k h => plainTo_step l k h)
  have HALL := Lib.hid (plainTo_all l)
  have HPL := Lib.hid (fun k => plainTo_len l k)
  have HV := Lib.hid (fun k => plainTo_vol l k)
  clear hl
  generalize plainOf l = res at *
  generalize hn : l.length = n at *
  have HN := Lib.hid hn
  clear hn
  obtain ⟨i0, hi0, hz0, hz1, hz2⟩ := info_parts info_Slug
  go_enter Try.func91, Try.ntmps91
  go_wp2_with fail
  go_loopw [3, 4] (fun s3 s4 wr => ∃ (k : Nat) (v : Value), k ≤ n ∧ v = s3 ∧ s4 = .int .i64 k ∧ Hid (wr.ownsRow w.heap.size 39 2 v (plainTo l k).length ((plainTo l k).flatMap slugC)) ∧ Hid (Below w.heap.size w wr)) (fun _ s4 _ => n - (intOf s4).toNat)
  case atStart => exact ⟨0, .slice none 0 0, Nat.zero_le _, rfl, rfl, World.ownsRow_nil _ _ _ _, Below.refl _ _⟩
  case round =>
    obtain ⟨k, v, hk, rfl, rfl, hown, BW⟩ := hrel
    have hsz := BW.out.size
    by_cases hlt : k < n
    · have t0 : decide (k < n) = true := decide_eq_true hlt
      obtain ⟨b, off, rfl, hb, hc⟩ := HL.out (by rw [HN.out]; omega)
      obtain ⟨c0, c1⟩ := hc k (by rw [HN.out]; exact hlt)
      have hbw : b < wr.heap.size := by omega
      have hst := Lib.hid (HST.out k hlt)
      have hpl := HPL.out k
      have hvol := Lib.hid (HV.out k)
      have b1 : (k : Int) < (n : Int) := by omega
      have b2 : (0 : Int) ≤ (k : Int) := by omega
      have C0 := Lib.hid c0
      have C1 := Lib.hid c1
      have d0 := oldCell BW.out hb c0
      have d1 := oldCell BW.out hb c1
      clear hc c0 c1
      generalize hP1 : plainTo l (k + 1) = P1 at *
      have HP1 := Lib.hid hP1
      generalize plainTo l k = P at *
      generalize slg l k = s at *
      clear hP1
      by_cases hv1 : s.Volume < 1
      · have he := Lib.hid (hst.out.trans (add_skip (by simp [within]; omega)))
        have t1 : decide (s.Volume < 1) = true := decide_eq_true hv1
        clear hv1
        obtain ⟨A0, cc, rfl, _, _⟩ := own_form hown.out
        go_wp2_with fail
        go_roundw
        case rel => exact ⟨k + 1, _, hlt, rfl, by go_num, (by unfold Hid; rw [HP1.out, he.out]; exact hown.out), BW⟩
        case measure => simp [intOf]; omega
      have t1 : decide (s.Volume < 1) = false := decide_eq_false hv1
      by_cases hv2 : 1099511627776 < s.Volume
      · have he := Lib.hid (hst.out.trans (add_skip (by simp [within]; omega)))
        have t2 : decide (1099511627776 < s.Volume) = true := decide_eq_true hv2
        clear hv2
        obtain ⟨A0, cc, rfl, _, _⟩ := own_form hown.out
        go_wp2_with fail
        go_roundw
        case rel => exact ⟨k + 1, _, hlt, rfl, by go_num, (by unfold Hid; rw [HP1.out, he.out]; exact hown.out), BW⟩
        case measure => simp [intOf]; omega
      have t2 : decide (1099511627776 < s.Volume) = false := decide_eq_false hv2
      have hw : within s.Volume 1 1099511627776 = true := by simp [within]; omega
      have hsv : 1 ≤ s.Volume ∧ s.Volume ≤ 1099511627776 := by omega
      rcases Nat.eq_zero_or_pos P.length with h0 | h0
      · obtain rfl := List.eq_nil_of_length_eq_zero h0
        have he := Lib.hid (hst.out.trans (add_first hw))
        obtain ⟨A0, cc, rfl, _, _⟩ := own_form hown.out
        have a4 : decide ((0 : Int) ≤ -1) = false := by decide
        clear hpl hvol hst
        go_wp2_with fail
        go_quiet (fail)
        obtain ⟨wq, hwq⟩ : ∃ wq, wr.drewN nq = wq := ⟨_, rfl⟩
        have BWQ := Lib.hid (show Below w.heap.size w wq by rw [← hwq]; exact belowDrewN BW.out nq)
        have OWQ := Lib.hid (show wq.ownsRow w.heap.size 39 2 (.slice A0 0 cc) 0 (([] : List Slug).flatMap slugC) by rw [← hwq]; exact hown.out)
        have HWQ := Lib.hid hwq
        clear hwq d0 d1
        rw [HWQ.out]
        have d0 := oldCell BWQ.out hb C0.out
        have d1 := oldCell BWQ.out hb C1.out
        have hbq : b < wq.heap.size := by have := BWQ.out.size; omega
        go_wp2_with (at_builtin; refine wpList_append_own _ rfl _ _ 30 rfl w.heap.size 39 i0 (.agg #[.int .i64 0, .int .i64 0]) 2 16 Try.underlying30 hi0 hz0 hz1 hz2 rfl (by decide) (.slice A0 0 cc) 0 (([] : List Slug).flatMap slugC) rfl (OWQ.out.alloc _) ⟨wq.heap.size, 0, none⟩ 1 1 (slugC s) rfl rfl ?_ ?_ ?_ ?_ ?_ ?_)
        · exact cells_new wq (slugC s) 39
        · simp [slugC, Value.oneCell']
        · unfold maxLen; omega
        · omega
        · have := BWQ.out.size; simp; omega
        intro v' w2 hown1 hg1 _
        have hB1 := Lib.hid (below_grown (BWQ.out.alloc BWQ.out.size _) (OWQ.out.alloc _) hg1 (by have := BWQ.out.size; simp; omega))
        have HO1 := Lib.hid hown1
        clear hown1 hg1
        go_wp2_with fail
        go_roundw
        case rel => exact ⟨k + 1, v', hlt, rfl, by go_num, (by unfold Hid; rw [HP1.out, he.out]; have := HO1.out; simpa using this), hB1⟩
        case measure => simp [intOf]; omega
      · obtain ⟨d, t, hdt, hd, ht, hdl⟩ := fluid_last h0
        have hvt := hvol.out t (by rw [hdt]; simp)
        have hmore : t.Weight = s.Weight → P1 = d ++ [(⟨t.Weight, t.Volume + s.Volume⟩ : Slug)] := fun h => by
          rw [hst.out, add_more hw h0 (by rw [← ht]; exact h), ← hd, ← ht]
        have hnew : t.Weight ≠ s.Weight → P1 = P ++ [s] := fun h => by
          rw [hst.out, add_new hw h0 (by rw [← ht]; exact h)]
        clear hst hvol hd ht
        subst hdt
        have hlen : (d ++ [t]).length = d.length + 1 := by simp
        have OWA := hown.out
        rw [hlen] at OWA hpl
        clear hlen h0 hdl hown
        obtain ⟨g, cc, rfl, hg, hglt, e0, e1, f1, _⟩ := own_last OWA
        generalize hmm : d.length = m at *
        have hml := Lib.hid hmm
        have HOWA := Lib.hid OWA
        clear hmm OWA
        have a1 : (m : Int) + 1 - 1 = (m : Int) := by omega
        have a2 : ((m + 1 : Nat) : Int) - 1 = (m : Int) := by omega
        have a5 : (m : Int) < ((m + 1 : Nat) : Int) := by omega
        have a6 : (0 : Int) ≤ (m : Int) := by omega
        have a7 : decide ((0 : Int) ≤ (m : Int)) = true := decide_eq_true a6
        by_cases hq : t.Weight = s.Weight
        · have q1 : (t.Weight == s.Weight) = true := beq_iff_eq.2 hq
          have he := Lib.hid (hmore hq)
          clear hmore hnew hq
          go_wp2_with fail
          go_quiet (fail)
          obtain ⟨wq, hwq⟩ : ∃ wq, wr.drewN nq = wq := ⟨_, rfl⟩
          have BWQ := Lib.hid (show Below w.heap.size w wq by rw [← hwq]; exact belowDrewN BW.out nq)
          have OWQ := Lib.hid (show wq.ownsRow w.heap.size 39 2 (.slice (some ⟨g, 0, none⟩) (m + 1) cc) (m + 1) ((d ++ [t]).flatMap slugC) by rw [← hwq]; exact HOWA.out)
          have HWQ := Lib.hid hwq
          clear hwq d0 d1 e0 e1 f1
          rw [HWQ.out]
          have d0 := oldCell BWQ.out hb C0.out
          have d1 := oldCell BWQ.out hb C1.out
          have hbq : b < wq.heap.size := by have := BWQ.out.size; omega
          obtain ⟨g', cc', hv', hg', hglt', e0, e1, f1, hset⟩ := own_last OWQ.out
          rw [hml.out] at e0 e1 f1 hset
          injection hv' with hv1' hv2' hv3'
          injection hv1' with hv1'
          injection hv1' with hv1' hv4 hv5
          subst hv1'
          subst hv3'
          clear hv2' hv4 hv5
          have HSET := Lib.hid hset
          clear hset
          have hwr : IntKind.i64.wrap (t.Volume + s.Volume) = t.Volume + s.Volume := IntWalk.i64_in _ (by omega)
          go_wp2_with fail
          go_region
          go_wp2_with fail
          go_roundw
          case rel =>
            refine ⟨k + 1, .slice (some ⟨g, 0, none⟩) (m + 1) cc, hlt, rfl, by go_num, ?_, (BWQ.out.setCell (p := ⟨g, m * 2 + 1, none⟩) (by simpa using hg) _).drew⟩
            unfold Hid
            rw [HP1.out, he.out]
            have h9 := HSET.out (t.Volume + s.Volume)
            have hll : (d ++ [(⟨t.Weight, t.Volume + s.Volume⟩ : Slug)]).length = m + 1 := by simp [hml.out]
            rw [hll]
            exact h9
          case measure => simp [intOf]; omega
        · have q1 : (t.Weight == s.Weight) = false := beq_eq_false_iff_ne.2 hq
          have he := Lib.hid (hnew hq)
          clear hmore hnew hq
          go_wp2_with fail
          go_quiet (fail)
          obtain ⟨wq, hwq⟩ : ∃ wq, wr.drewN nq = wq := ⟨_, rfl⟩
          have BWQ := Lib.hid (show Below w.heap.size w wq by rw [← hwq]; exact belowDrewN BW.out nq)
          have OWQ := Lib.hid (show wq.ownsRow w.heap.size 39 2 (.slice (some ⟨g, 0, none⟩) (m + 1) cc) (m + 1) ((d ++ [t]).flatMap slugC) by rw [← hwq]; exact HOWA.out)
          have HWQ := Lib.hid hwq
          clear hwq d0 d1 e0 e1 f1
          rw [HWQ.out]
          have d0 := oldCell BWQ.out hb C0.out
          have d1 := oldCell BWQ.out hb C1.out
          have hbq : b < wq.heap.size := by have := BWQ.out.size; omega
          go_wp2_with (at_builtin; refine wpList_append_own _ rfl _ _ 30 rfl w.heap.size 39 i0 (.agg #[.int .i64 0, .int .i64 0]) 2 16 Try.underlying30 hi0 hz0 hz1 hz2 rfl (by decide) (.slice (some ⟨g, 0, none⟩) (m + 1) cc) (m + 1) ((d ++ [t]).flatMap slugC) rfl (OWQ.out.alloc _) ⟨wq.heap.size, 0, none⟩ 1 1 (slugC s) rfl rfl ?_ ?_ ?_ ?_ ?_ ?_)
          · exact cells_new wq (slugC s) 39
          · simp [slugC, Value.oneCell']
          · unfold maxLen; omega
          · omega
          · have := BWQ.out.size; simp; omega
          intro v' w2 hown1 hg1 _
          have hB1 := Lib.hid (below_grown (BWQ.out.alloc BWQ.out.size _) (OWQ.out.alloc _) hg1 (by have := BWQ.out.size; simp; omega))
          have HO1 := Lib.hid hown1
          clear hown1 hg1
          go_wp2_with fail
          go_roundw
          case rel =>
            refine ⟨k + 1, v', hlt, rfl, by go_num, ?_, hB1⟩
            unfold Hid
            rw [HP1.out, he.out]
            have h9 := HO1.out
            have hll : (d ++ [t] ++ [s]).length = m + 1 + 1 := by simp [hml.out]
            rw [hll]
            simpa using h9
          case measure => simp [intOf]; omega
    · obtain rfl : k = n := by omega
      have t0 : decide (k < k) = false := decide_eq_false hlt
      have he : plainTo l k = res := HALL.out
      have HO := hown.out
      rw [he] at HO
      obtain ⟨A', c', rfl, _, _⟩ := own_form HO
      have HO' := Lib.hid HO
      clear HO he
      go_wp2_with fail
      go_ret
      exact ⟨⟨A', c', rfl, HO'.out⟩, BW.out⟩

end Go.Proofs.Ytgcfplkfclapiaa

/- Walks of the reference of layer 3: pumping. -/
namespace Mpl
theorem plainOf_zero (w : Int) (l : List Slug) : plainOf (⟨w, 0⟩ :: l) = plainOf l := by
  unfold plainOf
  rw [List.foldl_cons]
  congr 1
theorem stays_first {V : Int} {s : Slug} {l : List Slug} (h : s.Volume ≤ V) : stays V (s :: l) = s :: stays (V - s.Volume) l := by
  rw [stays, show min V s.Volume = s.Volume by omega]
theorem goes_first {V : Int} {s : Slug} {l : List Slug} (h : s.Volume ≤ V) : plainOf (goes V (s :: l)) = plainOf (goes (V - s.Volume) l) := by
  rw [goes, show min V s.Volume = s.Volume by omega, Int.sub_self, plainOf_zero]
end Mpl
namespace Go.Proofs.Ytgcfplkfclapiaa
open Go.RowKit Go.Shelf Mpl

theorem results_three {fn : Func} {p q u : Tmp} (h : fn.results = #[.tmp p, .tmp q, .tmp u]) (tmps : Array Value) (w : World) (a b c : Value)
    (hp : tmps.getD p undef = a) (hq : tmps.getD q undef = b) (hu : tmps.getD u undef = c) :
    (results fn tmps).run Try.prog w = .ok (.tuple #[a, b, c]) w := by
  simp only [results, h]
  rw [Array.getD_eq_getD_getElem?] at hp hq hu
  simp
  rw [hp, hq, hu]
  exact ⟨rfl, rfl, rfl⟩

theorem pumpV_none {w w' : World} {e : Int} (hb : Below w.heap.size w w') : PumpV w ([], [], e) (.returned (.tuple #[.slice none 0 0, .slice none 0 0, .int .i64 e])) w' :=
  ⟨⟨none, 0, none, 0, rfl, World.ownsRow_nil _ _ _ _, World.ownsRow_nil _ _ _ _⟩, hb⟩

set_option maxHeartbeats 8000000 in
set_option maxRecDepth 100000 in
theorem ref03_Pump (v0 : Value) (h : List Seg) (l : List Slug) (s : Slug) (A : Option Addr) (c : Nat) (w : World) (hv : HoleV w w.heap.size v0 h) (hl : Slugs w w.heap.size A l) (hlm : l.length ≤ maxLen) :
    Calls Try.prog 54 #[v0, .slice A l.length c, slugV s] w fun e w' => PumpV w (pump h l s) e w' := by
  have hvv := hv
  obtain ⟨AH, cH, rfl, hS⟩ := hv
  obtain ⟨w0, hw0⟩ : ∃ w0, (w.alloc (.cells #[.slice AH h.length cH] 25)).alloc (.cells #[.int .i64 s.Weight, .int .i64 s.Volume] 39) = w0 := ⟨_, rfl⟩
  have hB0 : Below w.heap.size w w0 := by rw [← hw0]; exact (by repeat (first | exact Below.refl _ _ | assumption | refine Below.setCell ?_ (by first | (simp; done) | (simp; omega)) _ | refine belowDrewN ?_ _ | refine Below.drew ?_ | refine Below.alloc ?_ (by first | (simp; done) | (simp; omega)) _))
  have B0 := Lib.hid (show Box w0 w.heap.size 25 #[.slice AH h.length cH] by rw [← hw0]; exact (Box.new w _ _ rfl).alloc _)
  have B1 := Lib.hid (show Box w0 (w.heap.size + 1) 39 #[.int .i64 s.Weight, .int .i64 s.Volume] by rw [← hw0]; exact Box.new _ _ _ (by simp))
  have HC := Lib.hid (ref03_CheckColumn _ h l A c w0 (hvv.below hB0) (hl.below hB0) hlm)
  have HVO := Lib.hid (fun W (hW : Below w0.heap.size w0 W) => ref03_Volume _ h W ((hvv.below hB0).below hW))
  have HW0 := Lib.hid hw0
  have HB0 := Lib.hid hB0
  have hdef : Hid (pump h l s = if checkColumn h l ≠ 0 then ([], [], checkColumn h l) else if within s.Weight 0 40000 && within s.Volume 1 (sizeUp h h.length) then (if 24 < (plainOf (stays (sizeUp h h.length) (s :: l))).length then ([], [], 8) else (plainOf (stays (sizeUp h h.length) (s :: l)), plainOf (goes (sizeUp h h.length) (s :: l)), 0)) else ([], [], 2)) := rfl
  have q0 := hole_box B0.out
  clear hw0 hB0
  by_cases h0 : checkColumn h l = 0
  case neg =>
    have hp : Hid (pump h l s = ([], [], checkColumn h l)) := by unfold Hid; rw [hdef.out, if_pos h0]
    have hz : (checkColumn h l != 0) = true := by simpa using h0
    clear hdef h0 hS hvv HVO
    rw [hp.out]
    generalize checkColumn h l = ch at *
    unfold slugV
    generalize h.length = nh at *
    generalize l.length = n at *
    go_enter Try.func54, Try.ntmps54
    go_wp2_with fail
    rw [HW0.out]
    go_wp2_with fail
    refine HC.out.mono ?_
    rintro e w1 ⟨rfl, hb1⟩
    go_wp2_with fail
    refine bodyPost_ret (results_three rfl _ _ _ _ _ rfl rfl rfl) rfl ?_
    exact pumpV_none (HB0.out.trans (hb1.mono HB0.out.size))
  have gc := (checkColumn_iff h l).1 h0
  have GC := Lib.hid gc
  obtain ⟨b, off, rfl, hbl, hcl⟩ := hl gc.pos
  have HCL := Lib.hid hcl
  rw [h0] at HC
  have hV := (gc.hole.ups h.length (Nat.le_refl _)).2.2.2.2
  rw [volume_good gc.hole] at HVO
  have hV0 : 0 ≤ sizeUp h h.length := by omega
  have hV2 := hV.2
  have hd2 : Hid (pump h l s = if within s.Weight 0 40000 && within s.Volume 1 (sizeUp h h.length) then (if 24 < (plainOf (stays (sizeUp h h.length) (s :: l))).length then ([], [], 8) else (plainOf (stays (sizeUp h h.length) (s :: l)), plainOf (goes (sizeUp h h.length) (s :: l)), 0)) else ([], [], 2)) := by unfold Hid; rw [hdef.out, if_neg (by simp [h0])]
  have hfew := gc.few
  have hpos := gc.pos
  have HS4 := Lib.hid (fun W (hW : Below w0.heap.size w0 W) => (⟨hole_box (B0.out.under hW), (B1.out.under hW).cell 0, (B1.out.under hW).cell 1⟩ : W.cell? ⟨w.heap.size, 0, none⟩ = some (.slice AH h.length cH) ∧ W.cell? ⟨w.heap.size + 1, 0, none⟩ = some (.int .i64 s.Weight) ∧ W.cell? ⟨w.heap.size + 1, 1, none⟩ = some (.int .i64 s.Volume)))
  clear hdef h0 hS hvv hV hcl gc
  generalize hVV : sizeUp h h.length = V at *
  clear hVV
  generalize pump h l s = res at *
  unfold slugV
  generalize h.length = nh at *
  generalize hn : l.length = n at *
  have HN := Lib.hid hn
  clear hn
  go_enter Try.func54, Try.ntmps54
  go_wp2_with fail
  rw [HW0.out]
  go_wp2_with fail
  refine HC.out.mono ?_
  rintro e w1 ⟨rfl, hb1⟩
  have E1 := Lib.hid hb1
  have hlt1 : w.heap.size + 1 < w1.heap.size := (B1.out.under hb1).lt
  have hlt0 : w.heap.size < w1.heap.size := by omega
  clear hb1 q0
  go_upto_region 4 with fail
  have E1d := Lib.hid E1.out.drew
  obtain ⟨g0, g1, g2⟩ := HS4.out _ E1.out
  have hbad : Hid ((s.Weight < 0 ∨ 40000 < s.Weight ∨ s.Volume < 1 ∨ V < s.Volume) → res = ([], [], 2)) := fun hb => by
    rw [hd2.out, if_neg]
    simp [within]
    omega
  by_cases h1 : s.Weight < 0
  · have hr := Lib.hid (hbad.out (.inl h1))
    have ed : decide (s.Weight < 0) = true := decide_eq_true h1
    clear hd2 hbad h1 HCL HN
    go_quiet (fail)
    go_wp2_with fail
    refine bodyPost_ret (results_three rfl _ _ _ _ _ rfl rfl rfl) rfl ?_
    rw [hr.out]
    exact pumpV_none (HB0.out.trans ((belowDrewN E1.out _).mono HB0.out.size))
  have e1 : decide (s.Weight < 0) = false := decide_eq_false h1
  by_cases h2 : 40000 < s.Weight
  · have hr := Lib.hid (hbad.out (.inr (.inl h2)))
    have ed : decide (40000 < s.Weight) = true := decide_eq_true h2
    clear hd2 hbad h2 HCL HN
    go_quiet (fail)
    go_wp2_with fail
    refine bodyPost_ret (results_three rfl _ _ _ _ _ rfl rfl rfl) rfl ?_
    rw [hr.out]
    exact pumpV_none (HB0.out.trans ((belowDrewN E1.out _).mono HB0.out.size))
  have e2 : decide (40000 < s.Weight) = false := decide_eq_false h2
  by_cases h3 : s.Volume < 1
  · have hr := Lib.hid (hbad.out (.inr (.inr (.inl h3))))
    have ed : decide (s.Volume < 1) = true := decide_eq_true h3
    clear hd2 hbad h3 HCL HN
    go_quiet (fail)
    go_wp2_with fail
    refine bodyPost_ret (results_three rfl _ _ _ _ _ rfl rfl rfl) rfl ?_
    rw [hr.out]
    exact pumpV_none (HB0.out.trans ((belowDrewN E1.out _).mono HB0.out.size))
  have e3 : decide (s.Volume < 1) = false := decide_eq_false h3
  by_cases h4 : V < s.Volume
  · have hr := Lib.hid (hbad.out (.inr (.inr (.inr h4))))
    have ed : decide (V < s.Volume) = true := decide_eq_true h4
    clear hd2 hbad h4 HCL HN
    go_region_held3 (fun w' => w'.cell? ⟨w.heap.size, 0, none⟩ = some (.slice AH nh cH) ∧ w'.cell? ⟨w.heap.size + 1, 0, none⟩ = some (.int .i64 s.Weight) ∧ w'.cell? ⟨w.heap.size + 1, 1, none⟩ = some (.int .i64 s.Volume)) (first | exact HS4.out _ E1d.out | exact HS4.out _ E2.out) (first | (go_at_call 29; (with_reducible refine (HVO.out _ E1d.out).mono ?_); rintro e w2 ⟨rfl, hb2⟩; have E2 := Lib.hid (E1d.out.trans (hb2.mono E1d.out.size)); clear hb2) | fail)
    go_wp2_with fail
    refine bodyPost_ret (results_three rfl _ _ _ _ _ rfl rfl rfl) rfl ?_
    rw [hr.out]
    exact pumpV_none (HB0.out.trans (E2.out.mono HB0.out.size))
  have e4 : decide (V < s.Volume) = false := decide_eq_false h4
  have hd3 : Hid (res = if 24 < (plainOf (s :: stays (V - s.Volume) l)).length then ([], [], 8) else (plainOf (s :: stays (V - s.Volume) l), plainOf (goes (V - s.Volume) l), 0)) := by
    unfold Hid
    rw [hd2.out, if_pos (by simp [within]; omega), stays_first (by omega), goes_first (by omega)]
  clear hd2 hbad
  go_region_held3 (fun w' => w'.cell? ⟨w.heap.size, 0, none⟩ = some (.slice AH nh cH) ∧ w'.cell? ⟨w.heap.size + 1, 0, none⟩ = some (.int .i64 s.Weight) ∧ w'.cell? ⟨w.heap.size + 1, 1, none⟩ = some (.int .i64 s.Volume)) (first | exact HS4.out _ E1d.out | exact HS4.out _ E2.out) (first | (go_at_call 29; (with_reducible refine (HVO.out _ E1d.out).mono ?_); rintro e w2 ⟨rfl, hb2⟩; have E2 := Lib.hid (E1d.out.trans (hb2.mono E1d.out.size)); clear hb2) | fail)
  clear g0 g1 g2
  obtain ⟨g0, g1, g2⟩ := HS4.out _ E2.out
  have hlt2 : w.heap.size + 1 < w2.heap.size := (B1.out.under E2.out).lt
  have hlt2' : w.heap.size < w2.heap.size := by omega
  go_upto_region 7 with fail
  obtain ⟨w3, hw3⟩ : ∃ w3, (w2.alloc (.cells #[.int .i64 s.Weight, .int .i64 s.Volume] 39)).alloc (.cells #[] 39) = w3 := ⟨_, rfl⟩
  have hb23 : Below w2.heap.size w2 w3 := by rw [← hw3]; exact ((Below.refl _ _).alloc (Nat.le_refl _) _).alloc (by simp) _
  have R3 : Hid (Rows2 w3 w2.heap.size (.slice (some ⟨w2.heap.size, 0, none⟩) 1 1) (.slice (some ⟨w2.heap.size + 1, 0, none⟩) 0 0) [s] []) := by
    rw [← hw3]
    refine ⟨(World.ownsRow_lit (base := w2.heap.size) (e := 39) (size := 2) w2 #[.int .i64 s.Weight, .int .i64 s.Volume] 1 (Nat.le_refl _) (by unfold maxLen; omega) rfl).alloc _, ?_, .inr (.inr (by simp [Value.ownBlock]))⟩
    have := World.ownsRow_lit (base := w2.heap.size) (e := 39) (size := 2) (w2.alloc (.cells #[.int .i64 s.Weight, .int .i64 s.Volume] 39)) #[] 0 (by simp) (by unfold maxLen; omega) rfl
    simpa using this
  have E3 := Lib.hid (E2.out.trans (hb23.mono E2.out.size))
  have E3d := Lib.hid E3.out.drew
  have HSW3 := Lib.hid (show w2.heap.size ≤ w3.heap.size from hb23.size)
  have HW3 := Lib.hid hw3
  have hlt3 : w.heap.size + 1 < w3.heap.size := (B1.out.under E3.out).lt
  have hlt3' : w.heap.size < w3.heap.size := by omega
  clear hw3 hb23 g0 g1 g2
  rw [HW3.out]
  obtain ⟨V1, hV1⟩ : ∃ V1, V1 = V - s.Volume := ⟨_, rfl⟩
  have hwr0 : IntKind.i64.wrap (V - s.Volume) = V - s.Volume := IntWalk.i64_in _ (by omega)
  go_region_held3 (fun w' => w'.cell? ⟨w.heap.size, 0, none⟩ = some (.slice AH nh cH) ∧ w'.cell? ⟨w.heap.size + 1, 0, none⟩ = some (.int .i64 s.Weight) ∧ w'.cell? ⟨w.heap.size + 1, 1, none⟩ = some (.int .i64 s.Volume)) (first | exact HS4.out _ E3d.out | exact HS4.out _ E4.out) (first | (go_at_call 29; (with_reducible refine (HVO.out _ E3d.out).mono ?_); rintro e w4 ⟨rfl, hb4⟩; have E4 := Lib.hid (E3d.out.trans (hb4.mono E3d.out.size)); have R4 := Lib.hid ((R3.out.under ((Below.refl _ w3).drew)).under hb4); have HSW4 := Lib.hid (Nat.le_trans HSW3.out (Nat.le_trans ((Below.refl w3.heap.size w3).drew).size hb4.size)); clear hb4) | fail)
  rw [← hV1] at hd3
  have hvols : ∀ i, i < l.length → 1 ≤ (slg l i).Volume ∧ (slg l i).Volume ≤ 5242880000 := fun i hi => by
    have h1 := GC.out.v1 i hi
    have h3 := heldUp_step l i
    have h4 := heldUp_mono GC.out (k := i + 1) hi
    have h5 := heldUp_mono GC.out (k := i) (by omega)
    have h6 := (GC.out.hole.ups h.length (Nat.le_refl _)).2.2.2.2.2
    omega
  have HPR := Lib.hid (fun k (hk : k ≤ l.length) => putTo_room V1 l (by omega) (fun i hi => by have := hvols i hi; omega) k hk)
  have HVL := Lib.hid hvols
  have HALL := Lib.hid (putTo_all V1 l)
  rw [HN.out] at HPR HVL HALL
  have HW2 : Hid (w.heap.size ≤ w2.heap.size) := by unfold Hid; omega
  have BW4 := Lib.hid (HB0.out.trans (E4.out.mono HB0.out.size))
  obtain ⟨i0, hi0, hz0, hz1, hz2⟩ := info_parts info_Slug
  clear hvols hlt1 hlt0 hlt2 hlt2' hlt3 hlt3' HW3 E1 E1d E2 E3 E3d R3 HSW3
  have hV1b : V1 ≤ 5242880000 := by omega
  have hV1a : 0 ≤ V1 := by omega
  have HV1 := Lib.hid hV1
  clear hV1
  go_wp2_with fail
  go_loopw [10, 11, 12, 13] (fun s10 s11 s12 s13 wr => ∃ (k : Nat) (vn vo : Value), k ≤ n ∧ vn = s10 ∧ vo = s11 ∧ s12 = .int .i64 (putTo V1 l k).1 ∧ s13 = .int .i64 k ∧ Hid (Rows2 wr w2.heap.size vn vo (s :: (putTo V1 l k).2.1) (putTo V1 l k).2.2) ∧ Hid (Below w.heap.size w wr) ∧ Hid (w2.heap.size ≤ wr.heap.size)) (fun _ _ _ s13 _ => n - (intOf s13).toNat)
  case atStart => exact ⟨0, _, _, Nat.zero_le _, rfl, rfl, by first | (rw [← HV1.out]; rfl) | (simp only [← HV1.out]; rw [IntWalk.i64_in _ (by omega)]; rfl), rfl, R4.out, BW4.out, HSW4.out⟩
  case round =>
    obtain ⟨k, vn, vo, hk, rfl, rfl, rfl, rfl, RR, BW, HSZ⟩ := hrel
    by_cases hlt : k < n
    · obtain ⟨c0, c1⟩ := HCL.out k hlt
      have C0 := Lib.hid c0
      have C1 := Lib.hid c1
      have d0 := oldCell BW.out hbl c0
      have d1 := oldCell BW.out hbl c1
      have hbw : b < wr.heap.size := by have := BW.out.size; omega
      have t0 : decide (k < n) = true := decide_eq_true hlt
      have b1 : (k : Int) < (n : Int) := by omega
      have b2 : (0 : Int) ≤ (k : Int) := by omega
      have HNX : Hid (putTo V1 l (k + 1) = ((putTo V1 l k).1 - min (putTo V1 l k).1 (slg l k).Volume, (putTo V1 l k).2.1 ++ [⟨(slg l k).Weight, min (putTo V1 l k).1 (slg l k).Volume⟩], (putTo V1 l k).2.2 ++ [⟨(slg l k).Weight, (slg l k).Volume - min (putTo V1 l k).1 (slg l k).Volume⟩])) := rfl
      obtain ⟨r0, r1, r2, r3⟩ := HPR.out k hk
      have hv := HVL.out k hlt
      obtain ⟨v0, v1⟩ := hv
      clear c0 c1
      generalize slg l k = x at *
      generalize hP1 : putTo V1 l (k + 1) = P1 at *
      have HP1 := Lib.hid hP1
      clear hP1
      generalize putTo V1 l k = P at *
      obtain ⟨room, na, no⟩ := P
      dsimp only at r0 r1 r2 r3 RR
      obtain ⟨mn, hmn⟩ : ∃ mn, (if x.Volume < room then x.Volume else room) = mn := ⟨_, rfl⟩
      have hmn2 : min room x.Volume = mn := by rw [← hmn]; split <;> omega
      have HX1 : Hid (P1 = (room - mn, na ++ [⟨x.Weight, mn⟩], no ++ [⟨x.Weight, x.Volume - mn⟩])) := by unfold Hid; rw [HNX.out, hmn2]
      have m0 : 0 ≤ mn := by omega
      have m1 : mn ≤ room := by omega
      have m2 : mn ≤ x.Volume := by omega
      have hnal : na.length ≤ 24 := by omega
      have hnol : no.length ≤ 24 := by omega
      clear hmn2 HNX r2 r3
      generalize x.Weight = xw at *
      generalize x.Volume = xv at *
      dsimp only
      go_wp2_with (at_builtin; refine wpList_append_lies _ rfl _ _ 30 rfl w2.heap.size 39 i0 (.agg #[.int .i64 0, .int .i64 0]) 2 16 Try.underlying30 hi0 hz0 hz1 hz2 rfl (by decide) vn (s :: na).length ((s :: na).flatMap slugC) rfl (RR.out.o1.alloc _) ⟨wr.heap.size, 0, none⟩ 1 1 (slugC ⟨xw, mn⟩) rfl rfl ?_ ?_ ?_ ?_ ?_ ?_ (wr.heap.size + 1) ?_ ?_)
      · exact cells_new wr (slugC ⟨xw, mn⟩) 39
      · simp [slugC, Value.oneCell']
      · first | omega | (simp; done) | (simp; omega) | (unfold maxLen; simp; omega) | (have := HSZ.out; simp; omega)
      · first | omega | (simp; done) | (simp; omega) | (unfold maxLen; simp; omega) | (have := HSZ.out; simp; omega)
      · first | omega | (simp; done) | (simp; omega) | (unfold maxLen; simp; omega) | (have := HSZ.out; simp; omega)
      · first | omega | (simp; done) | (simp; omega) | (unfold maxLen; simp; omega) | (have := HSZ.out; simp; omega)
      · first | omega | (simp; done) | (simp; omega) | (unfold maxLen; simp; omega) | (have := HSZ.out; simp; omega)
      intro g cap w5 hown5 hg5 hat5 hlt5
      have hba : Below wr.heap.size wr (wr.alloc (.cells #[.int .i64 xw, .int .i64 mn] 39)) := (Below.refl _ _).alloc (Nat.le_refl _) _
      have hsa : (wr.alloc (.cells #[.int .i64 xw, .int .i64 mn] 39)).heap.size = wr.heap.size + 1 := by simp
      have RR5 := Lib.hid ((RR.out.under hba).push hown5 hg5 (by rw [hsa]; exact hat5))
      have BW5 := Lib.hid (below_grown (BW.out.trans (hba.mono BW.out.size)) (own_le (RR.out.under hba).o1 HW2.out) hg5 (by have := BW.out.size; simp; omega))
      have hs5 := hg5.size
      have HS5 := Lib.hid (show w2.heap.size ≤ w5.heap.size by have := HSZ.out; simp at hs5; omega)
      clear hown5 hg5 hat5 hba hsa hs5 d0 d1 hbw
      have d0 := oldCell BW5.out hbl C0.out
      have d1 := oldCell BW5.out hbl C1.out
      have hbw : b < w5.heap.size := by have := BW5.out.size; omega
      go_upto_region 14 with fail
      clear RR BW HSZ
      have hwr : IntKind.i64.wrap (xv - mn) = xv - mn := IntWalk.i64_in _ (by omega)
      have SS : (fun w' : World => w'.cell? ⟨b, off + k * 2, none⟩ = some (.int .i64 xw) ∧ w'.cell? ⟨b, off + k * 2 + 1, none⟩ = some (.int .i64 xv)) w5.drew := ⟨d0, d1⟩
      refine AnyMid.begin (q := 100) (S := (fun (_ : Bool) (w' : World) => w'.cell? ⟨b, off + k * 2, none⟩ = some (.int .i64 xw) ∧ w'.cell? ⟨b, off + k * 2 + 1, none⟩ = some (.int .i64 xv))) (Z := fun _ => false) mixed ?_
      refine AnyMid.take (fun w' : World => w'.cell? ⟨b, off + k * 2, none⟩ = some (.int .i64 xw) ∧ w'.cell? ⟨b, off + k * 2 + 1, none⟩ = some (.int .i64 xv)) (i := 0) (v := vo) [] 1 (by simp) (fun _ h => h) (.inr fun _ h => h) SS rfl (by decide +kernel) (fun _ _ _ h => h) (Or.inl ⟨by simp [Region.wanted], fun w' hw' => by (obtain ⟨s0, s1⟩ := hw'; go_simp)⟩) ?_
      refine AnyMid.take (fun w' : World => w'.cell? ⟨b, off + k * 2, none⟩ = some (.int .i64 xw) ∧ w'.cell? ⟨b, off + k * 2 + 1, none⟩ = some (.int .i64 xv)) (i := 1) (v := .slice (some ⟨b, off, none⟩) n c) [] 1 (by simp) (fun _ h => h) (.inr fun _ h => h) SS rfl (by decide +kernel) (fun _ _ _ h => h) (Or.inl ⟨by simp [Region.wanted], fun w' hw' => by (obtain ⟨s0, s1⟩ := hw'; go_simp)⟩) ?_
      refine AnyMid.take (fun w' : World => w'.cell? ⟨b, off + k * 2, none⟩ = some (.int .i64 xw) ∧ w'.cell? ⟨b, off + k * 2 + 1, none⟩ = some (.int .i64 xv)) (i := 2) (v := .int .i64 k) [] 1 (by simp) (fun _ h => h) (.inr fun _ h => h) SS rfl (by decide +kernel) (fun _ _ _ h => h) (Or.inl ⟨by simp [Region.wanted], fun w' hw' => by (obtain ⟨s0, s1⟩ := hw'; go_simp)⟩) ?_
      refine AnyMid.take (fun w' : World => w'.cell? ⟨b, off + k * 2, none⟩ = some (.int .i64 xw) ∧ w'.cell? ⟨b, off + k * 2 + 1, none⟩ = some (.int .i64 xv)) (i := 3) (v := .pointer (some ⟨b, off + k * 2, none⟩)) [] 1 (by simp) (fun _ h => h) (.inr fun _ h => h) SS rfl (by decide +kernel) (fun _ _ _ h => h) (Or.inl ⟨by simp [Region.wanted], fun w' hw' => by (obtain ⟨s0, s1⟩ := hw'; go_simp)⟩) ?_
      refine AnyMid.take (fun w' : World => w'.cell? ⟨b, off + k * 2, none⟩ = some (.int .i64 xw) ∧ w'.cell? ⟨b, off + k * 2 + 1, none⟩ = some (.int .i64 xv)) (i := 4) (v := .pointer (some ⟨b, off + k * 2, none⟩)) [] 1 (by simp) (fun _ h => h) (.inr fun _ h => h) SS rfl (by decide +kernel) (fun _ _ _ h => h) (Or.inl ⟨by simp [Region.wanted], fun w' hw' => by (obtain ⟨s0, s1⟩ := hw'; go_simp)⟩) ?_
      refine AnyMid.take (fun w' : World => w'.cell? ⟨b, off + k * 2, none⟩ = some (.int .i64 xw) ∧ w'.cell? ⟨b, off + k * 2 + 1, none⟩ = some (.int .i64 xv)) (i := 5) (v := .int .i64 xw) [] 1 (by simp) (fun _ h => h) (.inr fun _ h => h) SS rfl (by decide +kernel) (fun _ _ _ h => h) (Or.inl ⟨by simp [Region.wanted], fun w' hw' => by (obtain ⟨s0, s1⟩ := hw'; go_simp)⟩) ?_
      refine AnyMid.take (fun w' : World => w'.cell? ⟨b, off + k * 2, none⟩ = some (.int .i64 xw) ∧ w'.cell? ⟨b, off + k * 2 + 1, none⟩ = some (.int .i64 xv)) (i := 6) (v := .slice (some ⟨b, off, none⟩) n c) [] 1 (by simp) (fun _ h => h) (.inr fun _ h => h) SS rfl (by decide +kernel) (fun _ _ _ h => h) (Or.inl ⟨by simp [Region.wanted], fun w' hw' => by (obtain ⟨s0, s1⟩ := hw'; go_simp)⟩) ?_
      refine AnyMid.take (fun w' : World => w'.cell? ⟨b, off + k * 2, none⟩ = some (.int .i64 xw) ∧ w'.cell? ⟨b, off + k * 2 + 1, none⟩ = some (.int .i64 xv)) (i := 7) (v := .int .i64 k) [] 1 (by simp) (fun _ h => h) (.inr fun _ h => h) SS rfl (by decide +kernel) (fun _ _ _ h => h) (Or.inl ⟨by simp [Region.wanted], fun w' hw' => by (obtain ⟨s0, s1⟩ := hw'; go_simp)⟩) ?_
      refine AnyMid.take (fun w' : World => w'.cell? ⟨b, off + k * 2, none⟩ = some (.int .i64 xw) ∧ w'.cell? ⟨b, off + k * 2 + 1, none⟩ = some (.int .i64 xv)) (i := 8) (v := .pointer (some ⟨b, off + k * 2, none⟩)) [] 1 (by simp) (fun _ h => h) (.inr fun _ h => h) SS rfl (by decide +kernel) (fun _ _ _ h => h) (Or.inl ⟨by simp [Region.wanted], fun w' hw' => by (obtain ⟨s0, s1⟩ := hw'; go_simp)⟩) ?_
      refine AnyMid.take (fun w' : World => w'.cell? ⟨b, off + k * 2, none⟩ = some (.int .i64 xw) ∧ w'.cell? ⟨b, off + k * 2 + 1, none⟩ = some (.int .i64 xv)) (i := 9) (v := .pointer (some ⟨b, off + k * 2 + 1, none⟩)) [] 1 (by simp) (fun _ h => h) (.inr fun _ h => h) SS rfl (by decide +kernel) (fun _ _ _ h => h) (Or.inl ⟨by simp [Region.wanted], fun w' hw' => by (obtain ⟨s0, s1⟩ := hw'; go_simp)⟩) ?_
      refine AnyMid.take (fun w' : World => w'.cell? ⟨b, off + k * 2, none⟩ = some (.int .i64 xw) ∧ w'.cell? ⟨b, off + k * 2 + 1, none⟩ = some (.int .i64 xv)) (i := 10) (v := .int .i64 xv) [] 1 (by simp) (fun _ h => h) (.inr fun _ h => h) SS rfl (by decide +kernel) (fun _ _ _ h => h) (Or.inl ⟨by simp [Region.wanted], fun w' hw' => by (obtain ⟨s0, s1⟩ := hw'; go_simp)⟩) ?_
      refine AnyMid.take (fun w' : World => w'.cell? ⟨b, off + k * 2, none⟩ = some (.int .i64 xw) ∧ w'.cell? ⟨b, off + k * 2 + 1, none⟩ = some (.int .i64 xv)) (i := 11) (v := .int .i64 mn) [] 1 (by simp) (fun _ h => h) (.inr fun _ h => h) SS rfl (by decide +kernel) (fun _ _ _ h => h) (Or.inl ⟨by simp [Region.wanted], fun w' hw' => by (obtain ⟨s0, s1⟩ := hw'; go_simp)⟩) ?_
      refine AnyMid.take (fun w' : World => w'.cell? ⟨b, off + k * 2, none⟩ = some (.int .i64 xw) ∧ w'.cell? ⟨b, off + k * 2 + 1, none⟩ = some (.int .i64 xv)) (i := 12) (v := .int .i64 (xv - mn)) [] 1 (by simp) (fun _ h => h) (.inr fun _ h => h) SS rfl (by decide +kernel) (fun _ _ _ h => h) (Or.inl ⟨by simp [Region.wanted], fun w' hw' => by (obtain ⟨s0, s1⟩ := hw'; go_simp)⟩) ?_
      refine AnyMid.take (fun w' : World => w'.cell? ⟨b, off + k * 2, none⟩ = some (.int .i64 xw) ∧ w'.cell? ⟨b, off + k * 2 + 1, none⟩ = some (.int .i64 xv)) (i := 13) (v := .agg #[.int .i64 xw, .int .i64 (xv - mn)]) [] 1 (by simp) (fun _ h => h) (.inr fun _ h => h) SS rfl (by decide +kernel) (fun _ _ _ h => h) (Or.inl ⟨by simp [Region.wanted], fun w' hw' => by (obtain ⟨s0, s1⟩ := hw'; go_simp)⟩) ?_
      have RR6 := Lib.hid (RR5.out.under (Below.refl _ w5).drew)
      have BW6 := Lib.hid BW5.out.drew
      refine AnyMid.only (i := 14) (by decide +kernel) rfl rfl (fun K hK => ?_)
      go_wp2_with fail
      have hba : Below w5.drew.heap.size w5.drew (w5.drew.alloc (.cells #[.int .i64 xw, .int .i64 (xv - mn)] 39)) := (Below.refl _ _).alloc (Nat.le_refl _) _
      have BW7 := BW6.out.trans (hba.mono BW6.out.size)
      refine hK _ _ (fun _ => ⟨oldCell BW7 hbl C0.out, oldCell BW7 hbl C1.out⟩) ?_
      clear hK K
      refine AnyMid.only (i := 15) (by decide +kernel) rfl rfl (fun K hK => ?_)
      refine wp_append_lies _ _ _ 30 rfl w2.heap.size 39 i0 (.agg #[.int .i64 0, .int .i64 0]) 2 16 Try.underlying30 hi0 hz0 hz1 hz2 rfl (by decide) vo no.length (no.flatMap slugC) rfl (RR6.out.o2.alloc _) ⟨w5.heap.size, 0, none⟩ 1 1 (slugC ⟨xw, xv - mn⟩) rfl rfl ?_ ?_ ?_ ?_ ?_ ?_ (w5.heap.size + 1) ?_ ?_
      · exact cells_new w5.drew (slugC ⟨xw, xv - mn⟩) 39
      · first | omega | (simp [slugC, Value.oneCell']; done)
      · first | omega | (simp; done) | (unfold maxLen; simp; omega)
      · first | omega | (simp; done) | (unfold maxLen; omega)
      · first | omega | (simp; done) | (simp; omega)
      · first | omega | (simp; done) | (have := HS5.out; simp; omega)
      · first | omega | (simp; done)
      intro g8 cap8 w8 hown8 hg8 hat8 hlt8
      have hsa : (w5.drew.alloc (.cells #[.int .i64 xw, .int .i64 (xv - mn)] 39)).heap.size = w5.heap.size + 1 := by simp
      have RR8 := Lib.hid ((RR6.out.under hba).swap.push hown8 hg8 (by rw [hsa]; exact hat8)).swap
      have BW8 := Lib.hid (below_grown BW7 (own_le (RR6.out.under hba).o2 HW2.out) hg8 (by have := BW6.out.size; simp at this; simp; omega))
      have hs8 := hg8.size
      have HS8 := Lib.hid (show w2.heap.size ≤ w8.heap.size by have := HS5.out; simp at hs8; omega)
      refine hK _ _ (fun _ => ⟨oldCell BW8.out hbl C0.out, oldCell BW8.out hbl C1.out⟩) ?_
      clear hK K hown8 hg8 hat8 hba hsa hs8 BW7 RR5 BW5 HS5 SS d0 d1
      refine AnyMid.only (i := 16) (by decide +kernel) rfl rfl (fun K hK => ?_)
      go_wp2_with fail
      refine hK _ _ (fun _ => ⟨oldCell BW8.out hbl C0.out, oldCell BW8.out hbl C1.out⟩) ?_
      clear hK K
      refine AnyMid.done (by decide +kernel) ?_
      go_wp2_with fail
      go_roundw
      case rel =>
        refine ⟨k + 1, _, _, hlt, rfl, rfl, ?_, by go_num, ?_, BW8.out, HS8.out⟩
        · rw [HP1.out, HX1.out]
        · unfold Hid
          rw [HP1.out, HX1.out]
          exact RR8.out
      case measure => simp [intOf]; omega
    · obtain rfl : k = n := by omega
      have t0 : decide (k < k) = false := decide_eq_false hlt
      have hr := RR.out
      obtain ⟨_, _, e1, e2⟩ := HPR.out k hk
      rw [HALL.out.1] at e1 hr
      rw [HALL.out.2] at e2 hr
      have L1 : Hid ((s :: stays V1 l).length ≤ 1000 ∧ (goes V1 l).length ≤ 1000) := ⟨by simp; omega, by omega⟩
      clear e1 e2 RR HPR HVL HALL
      generalize s :: stays V1 l = st at *
      generalize goes V1 l = gs at *
      obtain ⟨A1, a1, rfl, _, _⟩ := own_form hr.o1
      obtain ⟨A2, a2, rfl, _, _⟩ := own_form hr.o2
      have OO := Lib.hid hr
      have HP1 := Lib.hid (fun W (hW : Below wr.heap.size wr W) => ref03_Plain st A1 a1 W (own_slugs (own_under OO.out.o1 hW)) L1.out.1)
      have HP2 := Lib.hid (fun W (hW : Below wr.heap.size wr W) => ref03_Plain gs A2 a2 W (own_slugs (own_under OO.out.o2 hW)) L1.out.2)
      clear hr
      go_wp2_with fail
      refine (HP1.out _ (Below.refl _ _)).mono ?_
      rintro e w5 ⟨⟨X1, x1, rfl, ho1⟩, hb1⟩
      have O1 := Lib.hid ho1
      have HB1 := Lib.hid hb1
      clear ho1 hb1
      go_wp2_with fail
      refine (HP2.out _ HB1.out).mono ?_
      rintro e w6 ⟨⟨X2, x2, rfl, ho2⟩, hb2⟩
      have O2 := Lib.hid ho2
      have HB2 := Lib.hid hb2
      clear ho2 hb2 HP1 HP2 OO
      have BF := Lib.hid (BW.out.trans ((HB1.out.mono BW.out.size).trans (HB2.out.mono (Nat.le_trans BW.out.size HB1.out.size))))
      generalize (plainOf st) = p1 at *
      generalize (plainOf gs) = p2 at *
      by_cases hf : 24 < p1.length
      · have hp : Hid (res = ([], [], 8)) := by unfold Hid; rw [hd3.out, if_pos hf]
        have t1 : decide ((24 : Int) < (p1.length : Int)) = true := decide_eq_true (by omega)
        have t2 : decide (24 < p1.length) = true := decide_eq_true hf
        clear hd3 hf
        go_wp2_with fail
        refine bodyPost_ret (results_three rfl _ _ _ _ _ rfl rfl rfl) rfl ?_
        rw [hp.out]
        exact pumpV_none BF.out
      · have hp : Hid (res = (p1, p2, 0)) := by unfold Hid; rw [hd3.out, if_neg hf]
        have t1 : decide ((24 : Int) < (p1.length : Int)) = false := decide_eq_false (by omega)
        have t2 : decide (24 < p1.length) = false := decide_eq_false hf
        clear hd3 hf
        go_wp2_with fail
        refine bodyPost_ret (results_three rfl _ _ _ _ _ rfl rfl rfl) rfl ?_
        rw [hp.out]
        exact ⟨⟨X1, x1, X2, x2, rfl, own_le (own_under O1.out HB2.out) BW.out.size, own_le O2.out (Nat.le_trans BW.out.size HB1.out.size)⟩, BF.out⟩

end Go.Proofs.Ytgcfplkfclapiaa

/- The law FluidPumps, walked. -/
namespace Go.Proofs.Ytgcfplkfclapiaa
open Go.RowKit Go.Shelf Mpl

theorem slug_box' {w : World} {g t : Nat} {x y : Value} (h : Box w g t #[x, y]) : w.cell? ⟨g, 0, none⟩ = some x ∧ w.cell? ⟨g, 1, none⟩ = some y := ⟨h.cell 0, h.cell 1⟩
theorem slugC_one (l : List Slug) : ∀ u ∈ l.flatMap slugC, u.oneCell' = true := by
  intro u hu
  obtain ⟨t, _, hu⟩ := List.mem_flatMap.1 hu
  simp [slugC] at hu
  rcases hu with rfl | rfl <;> rfl
theorem Slugs.src {w : World} {B : Nat} {A : Option Addr} {l : List Slug} (h : Slugs w B A l) : Src w A l.length 2 (l.flatMap slugC) :=
  ⟨flatC_len slugC 2 (fun _ => rfl) l, fun h0 => by
    obtain ⟨b, off, rfl, _, hc⟩ := h h0
    refine ⟨b, off, rfl, flat_src slugC 2 (by omega) (fun _ => rfl) l w b off fun i hi j u hu => ?_⟩
    have hj : j < 2 := by have := (List.getElem?_eq_some_iff.1 hu).1; simpa [slugC] using this
    have ht : slg l i = l[i] := by simp [slg, hi]
    have := hc i hi
    rw [ht] at this
    rcases (show j = 0 ∨ j = 1 by omega) with rfl | rfl <;> simp [slugC] at hu <;> subst hu
    · exact this.1
    · exact this.2⟩
theorem pump_lengths (h : List Seg) (l : List Slug) (s : Slug) : (pump h l s).1.length ≤ l.length + 1 ∧ (pump h l s).2.1.length ≤ l.length + 1 := by
  have h1 := plainOf_length (stays (sizeUp h h.length) (s :: l))
  have h2 := plainOf_length (goes (sizeUp h h.length) (s :: l))
  rw [stays_length] at h1
  rw [goes_length] at h2
  simp only [List.length_cons] at h1 h2
  unfold pump
  split
  · simp
  · split
    · split
      · simp
      · exact ⟨h1, h2⟩
    · simp
theorem same_slugs (x : List Slug) (A B : Option Addr) (c d n m : Nat) (w : World) (hn : x.length = n) (hm : x.length = m) (hx : Slugs w w.heap.size A x) (hy : Slugs w w.heap.size B x) (hl : x.length ≤ 1000) :
    Calls Try.prog 55 #[.slice A n c, .slice B m d] w fun e w' => e = .returned (.bool true) ∧ Below w.heap.size w w' := by
  subst hn
  subst hm
  refine (kit_SameSlugs x x A B c d w hx hy hl hl).mono ?_
  rintro e w' ⟨rfl, hb⟩
  exact ⟨by simp, hb⟩

set_option maxHeartbeats 8000000 in
set_option maxRecDepth 100000 in
theorem walk_FluidPumps (h : List Seg) (v0 : Value) (l : List Slug) (A : Option Addr) (c : Nat) (s : Slug) (w : World) (hv : HoleV w w.heap.size v0 h) (hin : SegsIn h) (hm : h.length ≤ maxLen) (hl : Slugs w w.heap.size A l) (hlin : SlugsIn l) (hc : l.length ≤ c) (hcm : c ≤ maxLen) (_hs : SlugIn s) :
    Calls Try.prog 15 #[v0, .slice A l.length c, slugV s] w fun e w' => e = .returned (.bool true) ∧ Below w.heap.size w w' := by
  have HV := Lib.hid hv
  obtain ⟨AH, cH, rfl, _⟩ := hv
  obtain ⟨w0, hw0⟩ : ∃ w0, (w.alloc (.cells #[.slice AH h.length cH] 25)).alloc (.cells #[.int .i64 s.Weight, .int .i64 s.Volume] 39) = w0 := ⟨_, rfl⟩
  have B0 := Lib.hid (show Box w0 w.heap.size 25 #[.slice AH h.length cH] by rw [← hw0]; exact (Box.new w _ _ rfl).alloc _)
  have B1 := Lib.hid (show Box w0 (w.heap.size + 1) 39 #[.int .i64 s.Weight, .int .i64 s.Volume] by rw [← hw0]; exact Box.new _ _ _ (by simp))
  have HB0 := Lib.hid (show Below w.heap.size w w0 by rw [← hw0]; exact (by repeat (first | exact Below.refl _ _ | assumption | refine Below.setCell ?_ (by first | (simp; done) | (simp; omega)) _ | refine belowDrewN ?_ _ | refine Below.drew ?_ | refine Below.alloc ?_ (by first | (simp; done) | (simp; omega)) _)))
  have HW0 := Lib.hid hw0
  have q0 := hole_box B0.out
  clear hw0
  by_cases hbig : 18 < h.length ∨ 26 < l.length
  · unfold slugV
    clear hin hlin
    generalize h.length = nh at *
    generalize l.length = n at *
    by_cases h18 : 18 < nh
    · have t1 : decide ((18 : Int) < (nh : Int)) = true := decide_eq_true (by omega)
      have t2 : decide (18 < nh) = true := decide_eq_true h18
      go_enter Try.func15, Try.ntmps15
      go_wp2_with fail
      rw [HW0.out]
      go_wp2_with fail
      refine (law03_awake _).mono ?_
      rintro e w2 ⟨rfl, hb2⟩
      go_wp2_with fail
      go_ret
      exact ⟨rfl, HB0.out.trans (hb2.mono HB0.out.size)⟩
    · have t1 : decide ((18 : Int) < (nh : Int)) = false := decide_eq_false (by omega)
      have t2 : decide (18 < nh) = false := decide_eq_false h18
      have t3 : decide ((26 : Int) < (n : Int)) = true := decide_eq_true (by omega)
      have t4 : decide (26 < n) = true := decide_eq_true (by omega)
      go_enter Try.func15, Try.ntmps15
      go_wp2_with fail
      rw [HW0.out]
      go_wp2_with fail
      refine (law03_awake _).mono ?_
      rintro e w2 ⟨rfl, hb2⟩
      go_wp2_with fail
      go_ret
      exact ⟨rfl, HB0.out.trans (hb2.mono HB0.out.size)⟩
  have t1 : decide ((18 : Int) < (h.length : Int)) = false := decide_eq_false (by omega)
  have t2 : decide (18 < h.length) = false := decide_eq_false (by omega)
  have t3 : decide ((26 : Int) < (l.length : Int)) = false := decide_eq_false (by omega)
  have t4 : decide (26 < l.length) = false := decide_eq_false (by omega)
  have HS0 := Lib.hid (hl.up HB0.out HB0.out.size)
  have HL26 : Hid (l.length ≤ 26) := Nat.le_of_not_lt fun hh => hbig (.inr hh)
  have HPL := Lib.hid (pump_lengths h l s)
  have HOwn := Lib.hid (fun (W : World) (B : Nat) (v : Value) (hW : W.ownsRow B 39 2 v l.length (l.flatMap slugC)) => Slugs.own hW)
  have HP1 := Lib.hid (fun A' c' W (hW : Below w.heap.size w W) (hs : Slugs W W.heap.size A' l) => fluid_Pump _ h l s A' c' W (HV.out.up hW hW.size) hin hm hs hlin (Nat.le_trans hc hcm))
  have HP2 := Lib.hid (fun W (hW : Below w.heap.size w W) => ref03_Pump _ h l s A c W (HV.out.up hW hW.size) (hl.up hW hW.size) (Nat.le_trans hc hcm))
  have HSL := Lib.hid (fun A' c' d' W hx hy => same_slugs l A' A c' d' l.length l.length W rfl rfl hx hy (Nat.le_trans (Nat.le_of_not_lt fun hh => hbig (.inr hh)) (by omega)))
  have hHL := hl
  have HLL := Lib.hid (fun W (hW : Below w.heap.size w W) => hHL.up hW hW.size)
  clear hbig hHL hl hlin hin
  unfold slugV at HP1 HP2 ⊢
  generalize pump h l s = P at *
  obtain ⟨pa, px, pe⟩ := P
  simp only [] at HPL
  go_enter Try.func15, Try.ntmps15
  go_upto_region 3 with fail
  rw [HW0.out]
  have HSrc := Lib.hid ((HLL.out _ (HB0.out.alloc HB0.out.size (.cells #[] 39))).src)
  have HOne := Lib.hid (slugC_one l)
  have HO : Hid ((w0.alloc (.cells #[] 39)).ownsRow w0.heap.size 39 2 (.slice (some ⟨w0.heap.size, 0, none⟩) 0 0) 0 []) := World.ownsRow_lit w0 #[] 0 (Nat.le_refl _) (by unfold maxLen; omega) rfl
  have HLN := Lib.hid (show l.length ≤ 26 from HL26.out)
  have hln := HL26.out
  generalize hcells : l.flatMap slugC = cells at *
  generalize hnl : l.length = nl at *
  generalize h.length = nh at *
  have HNL := Lib.hid hnl
  have HCE := Lib.hid hcells
  clear hnl hcells
  obtain ⟨i0, hi, hz0, hz1, hz2⟩ := info_parts info_Slug
  go_wp2_with (at_builtin; refine wpList_append_list _ rfl _ _ 30 rfl w0.heap.size 39 i0 (.agg #[.int .i64 0, .int .i64 0]) 2 16 Try.underlying30 hi hz0 hz1 hz2 rfl (by decide) _ 0 [] rfl HO.out A nl c cells rfl HSrc.out HOne.out ?_ ?_ ?_ ?_)
  · unfold maxLen; omega
  · omega
  · simp
  intro v1 w1 hown1 hg1
  have hb1 : Below w0.heap.size w0 w1 := below_grown ((Below.refl w0.heap.size w0).alloc (Nat.le_refl _) _) HO.out hg1 (by simp)
  have hown1' : w1.ownsRow w0.heap.size 39 2 v1 nl cells := by simpa using hown1
  obtain ⟨A1, c1, rfl, hnc1, hs1⟩ := HOwn.out _ _ _ hown1'
  have HS1 := Lib.hid hs1
  have HB1 := Lib.hid hb1
  have HBW1 := Lib.hid (HB0.out.trans (hb1.mono HB0.out.size))
  have X0 := Lib.hid (B0.out.under hb1)
  have X1 := Lib.hid (B1.out.under hb1)
  have HPU := Lib.hid (HP1.out A1 c1 w1 HBW1.out HS1.out)
  clear hown1 hown1' hg1 hb1 hs1 HO HSrc HOne HCE HOwn q0
  have q0 := hole_box X0.out
  obtain ⟨q1, q2⟩ := slug_box' X1.out
  go_wp2_with fail
  refine HPU.out.mono ?_
  rintro e w2 ⟨⟨Aa, ca, Ax, cx, rfl, owa, owx⟩, hb2⟩
  simp only [] at owa owx HPL
  have SA := Lib.hid (own_slugs owa)
  have SX := Lib.hid (own_slugs owx)
  have HS2 := Lib.hid (HS1.out.below hb2)
  have HBW2 := Lib.hid (HBW1.out.trans (hb2.mono HBW1.out.size))
  have Y0 := Lib.hid (X0.out.under hb2)
  have Y1 := Lib.hid (X1.out.under hb2)
  have HPR := Lib.hid (HP2.out w2 HBW2.out)
  clear owa owx hb2 HPU q0 q1 q2
  have q0 := hole_box Y0.out
  obtain ⟨q1, q2⟩ := slug_box' Y1.out
  go_wp2_with fail
  refine HPR.out.mono ?_
  rintro e w3 ⟨⟨Ab, cb, Ay, cy, rfl, owb, owy⟩, hb3⟩
  simp only [] at owb owy
  have SB := Lib.hid (own_slugs owb)
  have SY := Lib.hid (own_slugs owy)
  have SA3 := Lib.hid (SA.out.below hb3)
  have SX3 := Lib.hid (SX.out.below hb3)
  have HS3 := Lib.hid (HS2.out.below hb3)
  have HBW3 := Lib.hid (HBW2.out.trans (hb3.mono HBW2.out.size))
  have hpa : pa.length ≤ 1000 := by have := HPL.out.1; omega
  have hpx : px.length ≤ 1000 := by have := HPL.out.2; omega
  have K1 := Lib.hid (fun w (hW : Below w3.heap.size w3 w) => same_slugs pa Aa Ab ca cb pa.length pa.length w rfl rfl (SA3.out.below hW) (SB.out.below hW) hpa)
  have K2 := Lib.hid (fun w (hW : Below w3.heap.size w3 w) => same_slugs px Ax Ay cx cy px.length px.length w rfl rfl (SX3.out.below hW) (SY.out.below hW) hpx)
  have K3 := Lib.hid (fun W (hW : Below w3.heap.size w3 W) => HSL.out A1 c1 c W (HS3.out.below hW) (HLL.out _ (HBW3.out.trans (hW.mono HBW3.out.size))))
  clear owb owy hb3 HPR q0 q1 q2 SA SX SA3 SX3 HS2 SB SY hpa hpx HPL HP1 HP2 HSL
  generalize pa.length = na at *
  generalize px.length = nx at *
  have ee : (pe == pe) = true := by simp
  go_wp2_with fail
  refine (K1.out _ (Below.refl _ _)).mono ?_
  rintro e w4 ⟨rfl, hb4⟩
  go_wp2_with fail
  refine (K2.out _ hb4).mono ?_
  rintro e w5 ⟨rfl, hb5⟩
  have hb5' := hb4.trans (hb5.mono hb4.size)
  go_wp2_with fail
  refine (K3.out _ hb5').mono ?_
  rintro e w6 ⟨rfl, hb6⟩
  have hb6' := hb5'.trans (hb6.mono hb5'.size)
  go_wp2_with fail
  refine (law03_awake _).mono ?_
  rintro e w7 ⟨rfl, hb7⟩
  have hb7' := hb6'.trans (hb7.mono hb6'.size)
  go_wp2_with fail
  go_ret
  exact ⟨rfl, HBW3.out.trans (hb7'.mono HBW3.out.size)⟩

end Go.Proofs.Ytgcfplkfclapiaa
