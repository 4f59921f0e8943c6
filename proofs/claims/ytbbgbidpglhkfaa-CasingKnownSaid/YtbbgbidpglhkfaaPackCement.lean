/- Several texts in one: Held, Held2, Held3, Design, Ref02, Ref02b, Ref02c, Ref02d, FMono, FAnnulus, FHeight2, FWhere, FRefHole, FRefHole2, FRefHole3, Cement, FGood, FOpen. -/
import Derived.Test.YtbbgbidpglhkfaaBase
import Derived.OrdersHeld
import Derived.Deep.RegionHeld3
import Derived.Test.YtbbgbidpglhkfaaLines
import Derived.Test.YtbbgbidpglhkfaaProven
import Derived.Deep.QuietTactic
import Derived.BigQuiet
import Derived.Test.YtbbgbidpglhkfaaStill
import Derived.RegionTactic
import Derived.BigRegion
import Derived.Test.YtbbgbidpglhkfaaFHole
import Derived.Test.YtbbgbidpglhkfaaKit
import Derived.Test.YtbbgbidpglhkfaaFPlaces
import Derived.Test.YtbbgbidpglhkfaaFHeight
import Derived.Test.YtbbgbidpglhkfaaFVolume
import Derived.Deep.DeepCutAuto
import Derived.Test.YtbbgbidpglhkfaaAwake
import Derived.Test.YtbbgbidpglhkfaaOpen
/- A region that draws its order, whose last operation writes what the region reads: what holds between the operations need not hold behind that one. -/
namespace Go.Proofs.Ytbbgbidpglhkfaa
open Go.RowKit

section
variable {P : Program} {ops : Array Oper} {Q : Exit → Act → World → Prop} {md : Region.Mode} {S : World → Prop} {z : Nat}

/-- any order from here on; S holds behind each operation but number z -/
def AnyBut (P : Program) (md : Region.Mode) (ops : Array Oper) (Q : Exit → Act → World → Prop) (S : World → Prop) (z : Nat) : Nat → Array Bool → Act → World → Prop
  | 0, b, a, w => Region.ready md ops b = [] ∧ Q .normal a w
  | m + 1, b, a, w => (Region.ready md ops b = [] → Q .normal a w) ∧ ∀ i ∈ Region.ready md ops b, wpOp P ops Q i (fun a' w' => (i ≠ z → S w') ∧ AnyBut P md ops Q S z m (b.setIfInBounds i true) a' w') a w

theorem AnyBut.any : ∀ {m : Nat} {b : Array Bool} {a : Act} {w : World}, AnyBut P md ops Q S z m b a w → wpAny P md ops Q m b a w
  | 0, _, _, _, h => h
  | _ + 1, _, _, _, h => ⟨h.1, fun i hi => wpOp_mono (fun _ _ k => AnyBut.any k.2) (h.2 i hi)⟩

theorem AnyBut.begin {id : Nat} {a : Act} {w : World} (hm : P.follows .mixedOrders = true) (h : AnyBut P .any ops Q S z ops.size (Array.replicate ops.size false) a w.drew) : (Code.region id ops true).wp P Q a w :=
  wp_region_any hm h.any

/-- number z waits for number i -/
def waits (md : Region.Mode) (ops : Array Oper) (z i : Nat) : Bool := match ops[z]? with | some o => o.after.any fun e => Region.binds md e && e.on == i | none => true

theorem waits_spec {i : Nat} {b : Array Bool} (h : waits md ops z i = true) (hz : z ∈ Region.ready md ops b) (hi : b.getD i true = false) : False := by
  obtain ⟨_, o, ho, hall⟩ := mem_ready.1 hz
  simp only [waits, ho, Array.any_eq_true'] at h
  obtain ⟨e, he, hb⟩ := h
  simp only [Bool.and_eq_true, beq_iff_eq] at hb
  have h1 := hall e he hb.1
  rw [hb.2] at h1
  rcases Nat.lt_or_ge i b.size with hl | hl
  · simp [hl] at h1 hi
    rw [h1] at hi
    cases hi
  · simp [Array.getElem?_eq_none hl] at hi

/-- number i, which yields v wherever S holds, may come first -/
theorem AnyBut.first {i : Nat} {o : Oper} {v : Value} (ho : ops[i]? = some o) (hs : ∀ (j : Nat) (o : Oper) cs d, ops[j]? = some o → o.op ≠ .select cs d) (hQ : ∀ c a w, Q (.panic c) (a.put o.dst v) w → Q (.panic c) a w) (hw : waits md ops z i = true) :
    ∀ (m : Nat) (b : Array Bool) (a : Act) (w : World), (∀ j oj, ops[j]? = some oj → j ≠ i → b.getD j true = false → (∀ e ∈ oj.after, Region.binds md e = true → e.on ≠ i) → o.apart ops oj = true) →
      i ∈ Region.ready md ops b → YieldsIf P ops S o v a → S w → AnyBut P md ops Q S z m (b.setIfInBounds i true) (a.put o.dst v) w → AnyBut P md ops Q S z (m + 1) b a w
  | m, b, a, w, hf, hr, hy, hS, H => by
    refine ⟨fun h => (by rw [h] at hr; cases hr), fun j hj => ?_⟩
    have hib : b.getD i true = false := (mem_ready.1 hr).1
    by_cases hji : j = i
    · subst hji
      exact hy.wpOp ho hS ⟨fun _ => hS, H⟩
    · have hjr := ready_mono hj hji
      have hjz : j ≠ z := fun e => by subst e; exact waits_spec hw hj hib
      cases m with
      | zero => rw [H.1] at hjr; cases hjr
      | succ m =>
        obtain ⟨hjb, oj, hoj, hall⟩ := mem_ready.1 hj
        have hno : ∀ e ∈ oj.after, Region.binds md e = true → e.on ≠ i := fun e he hb heq => by
          have h1 := hall e he hb
          rw [heq] at h1
          rcases Nat.lt_or_ge i b.size with hl | hl
          · simp [hl] at h1 hib
            rw [h1] at hib
            cases hib
          · simp [Array.getElem?_eq_none hl] at hib
        have hput := wpOp_putIf hoj (hf j oj hoj hji hjb hno) (fun cs d => hs i o cs d ho) (fun cs d => hs j oj cs d hoj) hQ hy (H.2 j hjr)
        refine wpOp_mono (fun a' w' k => ⟨fun _ => k.2.1 hjz, AnyBut.first ho hs hQ hw m _ a' w' (fun l ol hl hli hlb hn => hf l ol hl hli ?_ hn) (ready_mono hr (Ne.symm hji)) k.1 (k.2.1 hjz) ?_⟩) hput
        · by_cases hjl : j = l
          · subst hjl; exact hjb
          · rwa [getD_set_ne true hjl] at hlb
        · rw [Array.setIfInBounds_comm _ _ hji]
          exact k.2.2

theorem AnyBut.take {i : Nat} {o : Oper} {v : Value} {m : Nat} {b : Array Bool} {a : Act} {w : World} (ho : ops[i]? = some o) (hs : Region.noSelect ops = true) (hf : Region.free md ops b i = true) (hr : (Region.ready md ops b).contains i = true) (hw : waits md ops z i = true)
    (hQ : ∀ c a w, Q (.panic c) (a.put o.dst v) w → Q (.panic c) a w) (hS : S w) (hy : YieldsIf P ops S o v a) (h : AnyBut P md ops Q S z m (b.setIfInBounds i true) (a.put o.dst v) w) : AnyBut P md ops Q S z (m + 1) b a w :=
  AnyBut.first ho (Region.noSelect_spec hs) hQ hw m b a w (Region.free_spec ho hf) (by simpa using hr) hy hS h

/-- just one operation may come up -/
theorem AnyBut.only {i : Nat} {o : Oper} {m : Nat} {b : Array Bool} {a : Act} {w : World} (hr : Region.ready md ops b = [i]) (ho : ops[i]? = some o) (hg : o.guard = none)
    (h : ∀ K : Act → World → Prop, (∀ a' w', (i ≠ z → S w') → AnyBut P md ops Q S z m (b.setIfInBounds i true) a' w' → K a' w') → o.wp P a w K Q) : AnyBut P md ops Q S z (m + 1) b a w :=
  ⟨fun h0 => (by rw [hr] at h0; cases h0), fun j hj => by
    rw [hr, List.mem_singleton] at hj
    subst hj
    unfold wpOp
    simp only [ho]
    rw [if_pos (by simp [Region.wanted, hg])]
    exact .inl (h _ fun a' w' h1 h2 => ⟨h1, h2⟩)⟩

theorem AnyBut.done {b : Array Bool} {a : Act} {w : World} (hr : Region.ready md ops b = []) (h : Q .normal a w) : ∀ {m : Nat}, AnyBut P md ops Q S z m b a w
  | 0 => ⟨hr, h⟩
  | _ + 1 => ⟨fun _ => h, by rw [hr]; simp⟩
theorem AnyBut.gate {m : Nat} {b : Array Bool} {a : Act} {w : World} (h : AnyBut P md ops Q S z m b a w) : AnyBut P md ops Q S z m b a w := h
end

end Go.Proofs.Ytbbgbidpglhkfaa

/- A region that draws its order, whose last operations write what the region reads: what holds between the operations need not hold behind those. -/
namespace Go.Proofs.Ytbbgbidpglhkfaa
open Go.RowKit

section
variable {P : Program} {ops : Array Oper} {Q : Exit → Act → World → Prop} {md : Region.Mode} {S : World → Prop} {Z : Nat → Bool}

/-- any order from here on; S holds behind each operation but those of Z -/
def AnyLate (P : Program) (md : Region.Mode) (ops : Array Oper) (Q : Exit → Act → World → Prop) (S : World → Prop) (Z : Nat → Bool) : Nat → Array Bool → Act → World → Prop
  | 0, b, a, w => Region.ready md ops b = [] ∧ Q .normal a w
  | m + 1, b, a, w => (Region.ready md ops b = [] → Q .normal a w) ∧ ∀ i ∈ Region.ready md ops b, wpOp P ops Q i (fun a' w' => (Z i = false → S w') ∧ AnyLate P md ops Q S Z m (b.setIfInBounds i true) a' w') a w

theorem AnyLate.any : ∀ {m : Nat} {b : Array Bool} {a : Act} {w : World}, AnyLate P md ops Q S Z m b a w → wpAny P md ops Q m b a w
  | 0, _, _, _, h => h
  | _ + 1, _, _, _, h => ⟨h.1, fun i hi => wpOp_mono (fun _ _ k => AnyLate.any k.2) (h.2 i hi)⟩

theorem AnyLate.begin {id : Nat} {a : Act} {w : World} (hm : P.follows .mixedOrders = true) (h : AnyLate P .any ops Q S Z ops.size (Array.replicate ops.size false) a w.drew) : (Code.region id ops true).wp P Q a w :=
  wp_region_any hm h.any

/-- what is done has all done that it waits for -/
def Closed (md : Region.Mode) (ops : Array Oper) (b : Array Bool) : Prop := ∀ j o, ops[j]? = some o → b.getD j true = true → ∀ e ∈ o.after, Region.binds md e = true → b.getD e.on true = true
def closedB (md : Region.Mode) (ops : Array Oper) (b : Array Bool) : Bool := (List.range ops.size).all fun j => match ops[j]? with | some o => !(b.getD j true) || o.after.all (fun e => !(Region.binds md e) || b.getD e.on true) | none => true
theorem closed_of {b : Array Bool} (h : closedB md ops b = true) : Closed md ops b := fun j o ho hj e he hb => by
  unfold closedB at h
  rw [List.all_eq_true] at h
  have hlt : j < ops.size := (Array.getElem?_eq_some_iff.1 ho).1
  have := h j (List.mem_range.2 hlt)
  simp only [ho, hj, Bool.not_true, Bool.false_or, Array.all_eq_true'] at this
  have h2 := this e he
  rw [hb] at h2
  simpa using h2
theorem ready_after {b : Array Bool} {z : Nat} (hz : z ∈ Region.ready md ops b) : ∃ o, ops[z]? = some o ∧ ∀ e ∈ o.after, Region.binds md e = true → b.getD e.on true = true := by
  obtain ⟨_, o, ho, hall⟩ := mem_ready.1 hz
  refine ⟨o, ho, fun e he hb => ?_⟩
  have := hall e he hb
  rcases Nat.lt_or_ge e.on b.size with hl | hl
  · simp [hl] at this ⊢
    exact this
  · simp [hl]
theorem Closed.set {b : Array Bool} {j : Nat} (h : Closed md ops b) (hj : j ∈ Region.ready md ops b) : Closed md ops (b.setIfInBounds j true) := fun i o ho hi e he hb => by
  have up : ∀ k, b.getD k true = true → (b.setIfInBounds j true).getD k true = true := fun k hk => by
    by_cases hjk : j = k
    · subst hjk
      rcases Nat.lt_or_ge j b.size with hl | hl
      · simp [hl]
      · simp [hl]
    · rwa [getD_set_ne true hjk]
  by_cases hij : j = i
  · subst hij
    obtain ⟨o', ho', h2⟩ := ready_after hj
    rw [ho] at ho'
    injection ho' with ho'
    subst ho'
    exact up _ (h2 e he hb)
  · rw [getD_set_ne true hij] at hi
    exact up _ (h i o ho hi e he hb)
/-- number z waits for number i, by n others at most -/
def waitsN (md : Region.Mode) (ops : Array Oper) : Nat → Nat → Nat → Bool
  | 0, z, i => match ops[z]? with | some o => o.after.any (fun e => Region.binds md e && e.on == i) | none => false
  | n + 1, z, i => match ops[z]? with | some o => o.after.any (fun e => Region.binds md e && (e.on == i || waitsN md ops n e.on i)) | none => false
theorem done_waits {b : Array Bool} (hc : Closed md ops b) (n : Nat) : ∀ z i, b.getD z true = true → waitsN md ops n z i = true → b.getD i true = true := by
  induction n with
  | zero =>
    intro z i hz h
    unfold waitsN at h
    cases ho : ops[z]? with
    | none => simp [ho] at h
    | some o =>
      simp only [ho, Array.any_eq_true'] at h
      obtain ⟨e, he, h⟩ := h
      simp only [Bool.and_eq_true, beq_iff_eq] at h
      rw [← h.2]
      exact hc z o ho hz e he h.1
  | succ n ih =>
    intro z i hz h
    unfold waitsN at h
    cases ho : ops[z]? with
    | none => simp [ho] at h
    | some o =>
      simp only [ho, Array.any_eq_true'] at h
      obtain ⟨e, he, h⟩ := h
      simp only [Bool.and_eq_true, Bool.or_eq_true, beq_iff_eq] at h
      have hd := hc z o ho hz e he h.1
      rcases h.2 with h2 | h2
      · rw [← h2]; exact hd
      · exact ih _ _ hd h2
theorem ready_waits {b : Array Bool} (hc : Closed md ops b) (n : Nat) {z i : Nat} (hz : z ∈ Region.ready md ops b) (h : waitsN md ops n z i = true) : b.getD i true = true := by
  obtain ⟨o, ho, ha⟩ := ready_after hz
  cases n with
  | zero =>
    unfold waitsN at h
    simp only [ho, Array.any_eq_true'] at h
    obtain ⟨e, he, h⟩ := h
    simp only [Bool.and_eq_true, beq_iff_eq] at h
    rw [← h.2]
    exact ha e he h.1
  | succ n =>
    unfold waitsN at h
    simp only [ho, Array.any_eq_true'] at h
    obtain ⟨e, he, h⟩ := h
    simp only [Bool.and_eq_true, Bool.or_eq_true, beq_iff_eq] at h
    rcases h.2 with h2 | h2
    · rw [← h2]; exact ha e he h.1
    · exact done_waits hc n _ _ (ha e he h.1) h2

theorem AnyLate.first {i : Nat} {o : Oper} {v : Value} (ho : ops[i]? = some o) (hs : ∀ (j : Nat) (o : Oper) cs d, ops[j]? = some o → o.op ≠ .select cs d) (hQ : ∀ c a w, Q (.panic c) (a.put o.dst v) w → Q (.panic c) a w) {nf : Nat} (hw : ∀ z, Z z = true → waitsN md ops nf z i = true) :
    ∀ (m : Nat) (b : Array Bool) (a : Act) (w : World), Closed md ops b → (∀ j oj, ops[j]? = some oj → j ≠ i → b.getD j true = false → (∀ e ∈ oj.after, Region.binds md e = true → e.on ≠ i) → o.apart ops oj = true) →
      i ∈ Region.ready md ops b → YieldsIf P ops S o v a → S w → AnyLate P md ops Q S Z m (b.setIfInBounds i true) (a.put o.dst v) w → AnyLate P md ops Q S Z (m + 1) b a w
  | m, b, a, w, hc, hf, hr, hy, hS, H => by
    refine ⟨fun h => (by rw [h] at hr; cases hr), fun j hj => ?_⟩
    have hib : b.getD i true = false := (mem_ready.1 hr).1
    by_cases hji : j = i
    · subst hji
      exact hy.wpOp ho hS ⟨fun _ => hS, H⟩
    · have hjr := ready_mono hj hji
      have hjz : Z j = false := by
        cases e : Z j with
        | false => rfl
        | true => rw [ready_waits hc nf hj (hw j e)] at hib; cases hib
      cases m with
      | zero => rw [H.1] at hjr; cases hjr
      | succ m =>
        obtain ⟨hjb, oj, hoj, hall⟩ := mem_ready.1 hj
        have hno : ∀ e ∈ oj.after, Region.binds md e = true → e.on ≠ i := fun e he hb heq => by
          have h1 := hall e he hb
          rw [heq] at h1
          rcases Nat.lt_or_ge i b.size with hl | hl
          · simp [hl] at h1 hib
            rw [h1] at hib
            cases hib
          · simp [Array.getElem?_eq_none hl] at hib
        have hput := wpOp_putIf hoj (hf j oj hoj hji hjb hno) (fun cs d => hs i o cs d ho) (fun cs d => hs j oj cs d hoj) hQ hy (H.2 j hjr)
        refine wpOp_mono (fun a' w' k => ⟨fun _ => k.2.1 hjz, AnyLate.first ho hs hQ hw m _ a' w' (hc.set hj) (fun l ol hl hli hlb hn => hf l ol hl hli ?_ hn) (ready_mono hr (Ne.symm hji)) k.1 (k.2.1 hjz) ?_⟩) hput
        · by_cases hjl : j = l
          · subst hjl; exact hjb
          · rwa [getD_set_ne true hjl] at hlb
        · rw [Array.setIfInBounds_comm _ _ hji]
          exact k.2.2

theorem AnyLate.take {i : Nat} {o : Oper} {v : Value} {m : Nat} {b : Array Bool} {a : Act} {w : World} (zs : List Nat) (nf : Nat) (hz : ∀ z, Z z = true → z ∈ zs) (ho : ops[i]? = some o) (hs : Region.noSelect ops = true) (hf : Region.free md ops b i = true) (hr : (Region.ready md ops b).contains i = true) (hw : zs.all (fun z => waitsN md ops nf z i) = true) (hc : closedB md ops b = true)
    (hQ : ∀ c a w, Q (.panic c) (a.put o.dst v) w → Q (.panic c) a w) (hS : S w) (hy : YieldsIf P ops S o v a) (h : AnyLate P md ops Q S Z m (b.setIfInBounds i true) (a.put o.dst v) w) : AnyLate P md ops Q S Z (m + 1) b a w :=
  AnyLate.first ho (Region.noSelect_spec hs) hQ (fun z h => List.all_eq_true.1 hw z (hz z h)) m b a w (closed_of hc) (Region.free_spec ho hf) (by simpa using hr) hy hS h

theorem AnyLate.done {b : Array Bool} {a : Act} {w : World} (hr : Region.ready md ops b = []) (h : Q .normal a w) : ∀ {m : Nat}, AnyLate P md ops Q S Z m b a w
  | 0 => ⟨hr, h⟩
  | _ + 1 => ⟨fun _ => h, by rw [hr]; simp⟩
/-- just one operation may come up, one of Z -/
theorem AnyLate.only {i : Nat} {o : Oper} {m : Nat} {b : Array Bool} {a : Act} {w : World} (hr : Region.ready md ops b = [i]) (ho : ops[i]? = some o) (hg : o.guard = none) (hZ : Z i = true)
    (h : ∀ K : Act → World → Prop, (∀ a' w', AnyLate P md ops Q S Z m (b.setIfInBounds i true) a' w' → K a' w') → o.wp P a w K Q) : AnyLate P md ops Q S Z (m + 1) b a w :=
  ⟨fun h0 => (by rw [hr] at h0; cases h0), fun j hj => by
    rw [hr, List.mem_singleton] at hj
    subst hj
    unfold wpOp
    simp only [ho]
    rw [if_pos (by simp [Region.wanted, hg])]
    exact .inl (h _ fun a' w' h1 => ⟨fun e => (by rw [hZ] at e; cases e), h1⟩)⟩
/-- one of two operations may come up, both of Z -/
theorem AnyLate.pair {i j : Nat} {o o' : Oper} {m : Nat} {b : Array Bool} {a : Act} {w : World} (hr : Region.ready md ops b = [i, j]) (ho : ops[i]? = some o) (hg : o.guard = none) (hZ : Z i = true) (ho' : ops[j]? = some o') (hg' : o'.guard = none) (hZ' : Z j = true)
    (h : ∀ K : Act → World → Prop, (∀ a' w', AnyLate P md ops Q S Z m (b.setIfInBounds i true) a' w' → K a' w') → o.wp P a w K Q) (h' : ∀ K : Act → World → Prop, (∀ a' w', AnyLate P md ops Q S Z m (b.setIfInBounds j true) a' w' → K a' w') → o'.wp P a w K Q) : AnyLate P md ops Q S Z (m + 1) b a w :=
  ⟨fun h0 => (by rw [hr] at h0; cases h0), fun l hl => by
    rw [hr] at hl
    simp only [List.mem_cons, List.not_mem_nil, or_false] at hl
    rcases hl with rfl | rfl
    · unfold wpOp
      simp only [ho]
      rw [if_pos (by simp [Region.wanted, hg])]
      exact .inl (h _ fun a' w' h1 => ⟨fun e => (by rw [hZ] at e; cases e), h1⟩)
    · unfold wpOp
      simp only [ho']
      rw [if_pos (by simp [Region.wanted, hg'])]
      exact .inl (h' _ fun a' w' h1 => ⟨fun e => (by rw [hZ'] at e; cases e), h1⟩)⟩
end

end Go.Proofs.Ytbbgbidpglhkfaa

/- A region that draws its order, with a store in its midst and one at its end: what holds before the store need not hold behind it. -/
namespace Go.Proofs.Ytbbgbidpglhkfaa
open Go.RowKit

section
variable {P : Program} {ops : Array Oper} {Q : Exit → Act → World → Prop} {md : Region.Mode} {q : Nat} {S : Bool → World → Prop} {Z : Nat → Bool}

/-- any order from here on; S, told whether q is done, holds behind each operation but those of Z -/
def AnyMid (P : Program) (md : Region.Mode) (ops : Array Oper) (Q : Exit → Act → World → Prop) (q : Nat) (S : Bool → World → Prop) (Z : Nat → Bool) : Nat → Array Bool → Act → World → Prop
  | 0, b, a, w => Region.ready md ops b = [] ∧ Q .normal a w
  | m + 1, b, a, w => (Region.ready md ops b = [] → Q .normal a w) ∧ ∀ i ∈ Region.ready md ops b, wpOp P ops Q i (fun a' w' => (Z i = false → S ((b.setIfInBounds i true).getD q true) w') ∧ AnyMid P md ops Q q S Z m (b.setIfInBounds i true) a' w') a w

theorem AnyMid.any : ∀ {m : Nat} {b : Array Bool} {a : Act} {w : World}, AnyMid P md ops Q q S Z m b a w → wpAny P md ops Q m b a w
  | 0, _, _, _, h => h
  | _ + 1, _, _, _, h => ⟨h.1, fun i hi => wpOp_mono (fun _ _ k => AnyMid.any k.2) (h.2 i hi)⟩

theorem AnyMid.begin {id : Nat} {a : Act} {w : World} (hm : P.follows .mixedOrders = true) (h : AnyMid P .any ops Q q S Z ops.size (Array.replicate ops.size false) a w.drew) : (Code.region id ops true).wp P Q a w :=
  wp_region_any hm h.any

theorem AnyMid.first {T : World → Prop} {i : Nat} {o : Oper} {v : Value} (ho : ops[i]? = some o) (hs : ∀ (j : Nat) (o : Oper) cs d, ops[j]? = some o → o.op ≠ .select cs d) (hQ : ∀ c a w, Q (.panic c) (a.put o.dst v) w → Q (.panic c) a w) {nf : Nat} (hw : ∀ z, Z z = true → waitsN md ops nf z i = true) (hiq : i ≠ q)
    (h0 : ∀ w, S false w → T w) (h1 : waitsN md ops nf q i = true ∨ ∀ w, S true w → T w) :
    ∀ (m : Nat) (b : Array Bool) (a : Act) (w : World), Closed md ops b → (∀ j oj, ops[j]? = some oj → j ≠ i → b.getD j true = false → (∀ e ∈ oj.after, Region.binds md e = true → e.on ≠ i) → o.apart ops oj = true) →
      i ∈ Region.ready md ops b → YieldsIf P ops T o v a → S (b.getD q true) w → AnyMid P md ops Q q S Z m (b.setIfInBounds i true) (a.put o.dst v) w → AnyMid P md ops Q q S Z (m + 1) b a w
  | m, b, a, w, hc, hf, hr, hy, hS, H => by
    refine ⟨fun h => (by rw [h] at hr; cases hr), fun j hj => ?_⟩
    have hib : b.getD i true = false := (mem_ready.1 hr).1
    have hT : T w := by
      cases e : b.getD q true with
      | false => rw [e] at hS; exact h0 _ hS
      | true =>
        rcases h1 with h1 | h1
        · rw [done_waits hc nf _ _ e h1] at hib; cases hib
        · rw [e] at hS; exact h1 _ hS
    by_cases hji : j = i
    · subst hji
      refine hy.wpOp ho hT ⟨fun _ => ?_, H⟩
      rw [getD_set_ne true hiq]
      exact hS
    · have hjr := ready_mono hj hji
      have hjz : Z j = false := by
        cases e : Z j with
        | false => rfl
        | true => rw [ready_waits hc nf hj (hw j e)] at hib; cases hib
      cases m with
      | zero => rw [H.1] at hjr; cases hjr
      | succ m =>
        obtain ⟨hjb, oj, hoj, hall⟩ := mem_ready.1 hj
        have hno : ∀ e ∈ oj.after, Region.binds md e = true → e.on ≠ i := fun e he hb heq => by
          have h1 := hall e he hb
          rw [heq] at h1
          rcases Nat.lt_or_ge i b.size with hl | hl
          · simp [hl] at h1 hib
            rw [h1] at hib
            cases hib
          · simp [Array.getElem?_eq_none hl] at hib
        have hput := wpOp_putIf hoj (hf j oj hoj hji hjb hno) (fun cs d => hs i o cs d ho) (fun cs d => hs j oj cs d hoj) hQ hy (H.2 j hjr)
        have hk : ∀ w', S (((b.setIfInBounds i true).setIfInBounds j true).getD q true) w' → S ((b.setIfInBounds j true).getD q true) w' := fun w' h => by
          rw [Array.setIfInBounds_comm _ _ (Ne.symm hji), getD_set_ne true hiq] at h
          exact h
        refine wpOp_mono (fun a' w' k => ⟨fun _ => hk _ (k.2.1 hjz), AnyMid.first ho hs hQ hw hiq h0 h1 m _ a' w' (hc.set hj) (fun l ol hl hli hlb hn => hf l ol hl hli ?_ hn) (ready_mono hr (Ne.symm hji)) k.1 (hk _ (k.2.1 hjz)) ?_⟩) hput
        · by_cases hjl : j = l
          · subst hjl; exact hjb
          · rwa [getD_set_ne true hjl] at hlb
        · rw [Array.setIfInBounds_comm _ _ hji]
          exact k.2.2

/-- number i, for which q and the last ones wait: what it reads stands before q -/
theorem AnyMid.take (T : World → Prop) {i : Nat} {o : Oper} {v : Value} {m : Nat} {b : Array Bool} {a : Act} {w : World} (zs : List Nat) (nf : Nat) (hz : ∀ z, Z z = true → z ∈ zs) (h0 : ∀ w, S false w → T w) (h1 : waitsN md ops nf q i = true ∨ ∀ w, S true w → T w) (hS : S (b.getD q true) w) (ho : ops[i]? = some o)
    (hk : (Region.noSelect ops && Region.free md ops b i && (Region.ready md ops b).contains i && zs.all (fun z => waitsN md ops nf z i) && closedB md ops b && !(i == q)) = true)
    (hQ : ∀ c a w, Q (.panic c) (a.put o.dst v) w → Q (.panic c) a w) (hy : YieldsIf P ops T o v a) (h : AnyMid P md ops Q q S Z m (b.setIfInBounds i true) (a.put o.dst v) w) : AnyMid P md ops Q q S Z (m + 1) b a w := by
  simp only [Bool.and_eq_true] at hk
  obtain ⟨⟨⟨⟨⟨k1, k2⟩, k3⟩, k4⟩, k5⟩, k6⟩ := hk
  exact AnyMid.first ho (Region.noSelect_spec k1) hQ (fun z h => List.all_eq_true.1 k4 z (hz z h)) (by simpa using k6) h0 h1 m b a w (closed_of k5) (Region.free_spec ho k2) (by simpa using k3) hy hS h

theorem AnyMid.done {b : Array Bool} {a : Act} {w : World} (hr : Region.ready md ops b = []) (h : Q .normal a w) : ∀ {m : Nat}, AnyMid P md ops Q q S Z m b a w
  | 0 => ⟨hr, h⟩
  | _ + 1 => ⟨fun _ => h, by rw [hr]; simp⟩
/-- just one operation may come up -/
theorem AnyMid.only {i : Nat} {o : Oper} {m : Nat} {b : Array Bool} {a : Act} {w : World} (hr : Region.ready md ops b = [i]) (ho : ops[i]? = some o) (hg : o.guard = none)
    (h : ∀ K : Act → World → Prop, (∀ a' w', (Z i = false → S ((b.setIfInBounds i true).getD q true) w') → AnyMid P md ops Q q S Z m (b.setIfInBounds i true) a' w' → K a' w') → o.wp P a w K Q) : AnyMid P md ops Q q S Z (m + 1) b a w :=
  ⟨fun h0 => (by rw [hr] at h0; cases h0), fun j hj => by
    rw [hr, List.mem_singleton] at hj
    subst hj
    unfold wpOp
    simp only [ho]
    rw [if_pos (by simp [Region.wanted, hg])]
    exact .inl (h _ fun a' w' h1 h2 => ⟨h1, h2⟩)⟩
end

end Go.Proofs.Ytbbgbidpglhkfaa

/- The value of a line at one of its knots. No Go in sight. (The joint seat.) -/
namespace Mpl

theorem value_knot {ks : List Knot} {a v : Int} (h : GoodLine ks a v) {i : Nat} (hi : i < ks.length) : value ks (kn ks i).At = ⟨(kn ks i).V, (kn ks i).V⟩ := by
  have hb : before (kn ks i).At ks = i := by
    have h1 := before_iff h (kn ks i).At
    have h2 := before_le (kn ks i).At ks
    rcases Nat.lt_trichotomy (before (kn ks i).At ks) i with h3 | h3 | h3
    · have := h.lt h3 hi
      have := (h1 _ (by omega)).1 this
      omega
    · exact h3
    · have := (h1 i hi).2 h3
      omega
  unfold value
  rw [hb]
  by_cases h0 : i = 0
  · rw [if_pos h0, h0]
  · rw [if_neg h0, if_neg (by omega)]
    have hu := h.up (i - 1) (by omega)
    rw [show i - 1 + 1 = i by omega] at hu
    unfold between
    have hd : (kn ks i).At - (kn ks (i - 1)).At ≠ 0 := by omega
    rw [Int.mul_ediv_cancel _ hd, ← Int.neg_mul, Int.mul_ediv_cancel _ hd]
    congr 1 <;> omega

end Mpl

/- Walks of the reference of layer 2: lines are checked. -/
namespace Go.Proofs.Ytbbgbidpglhkfaa
open Go.RowKit Go.Shelf Mpl

def lastOf (ks : List Knot) (k : Nat) : Int := if k = 0 then -1 else (kn ks (k - 1)).At

set_option maxHeartbeats 4000000 in
set_option maxRecDepth 100000 in
theorem ref02_CheckLine_loop (ks : List Knot) (b off : Nat) (c : Nat) (at_ v : Int) (w : World) (hb : b < w.heap.size)
    (hk : ∀ i, i < ks.length → w.cell? ⟨b, off + i * 2, none⟩ = some (.int .i64 (kn ks i).At) ∧ w.cell? ⟨b, off + i * 2 + 1, none⟩ = some (.int .i64 (kn ks i).V))
    (h0 : 0 < ks.length) (h24 : ks.length ≤ 24) (h1 : 0 ≤ at_) (h2 : at_ ≤ 1099511627776) (h3 : 0 ≤ v) (h4 : v ≤ 68719476736) :
    Calls Try.prog 76 #[.agg #[.slice (some ⟨b, off, none⟩) ks.length c], .int .i64 at_, .int .i64 v] w fun e w' => e = .returned (.int .i64 (checkKnots at_ v (-1) ks)) ∧ Below w.heap.size w w' := by
  have HK := Lib.hid hk
  clear hk
  generalize hn : ks.length = n at *
  have HN := Lib.hid hn
  clear hn
  generalize hres : checkKnots at_ v (-1) ks = res at *
  have HR := Lib.hid hres
  clear hres
  have hz : ((n : Int) == 0) = false := by simp; omega
  have hz2 : decide ((24 : Int) < (n : Int)) = false := by simp; omega
  have d1 : decide (at_ < 0) = false := decide_eq_false (by omega)
  have d2 : decide (1099511627776 < at_) = false := decide_eq_false (by omega)
  have d3 : decide (v < 0) = false := decide_eq_false (by omega)
  have d4 : decide (68719476736 < v) = false := decide_eq_false (by omega)
  obtain ⟨w0, hw0⟩ : ∃ w0, w.alloc (.cells #[.slice (some ⟨b, off, none⟩) n c] 46) = w0 := ⟨_, rfl⟩
  have b0 : Box w0 w.heap.size 46 #[.slice (some ⟨b, off, none⟩) n c] := by rw [← hw0]; exact Box.new _ _ _ rfl
  have hB0 : Below w.heap.size w w0 := by rw [← hw0]; exact (by repeat (first | exact Below.refl _ _ | assumption | refine Below.setCell ?_ (by first | (simp; done) | (simp; omega)) _ | refine belowDrewN ?_ _ | refine Below.drew ?_ | refine Below.alloc ?_ (by first | (simp; done) | (simp; omega)) _))
  have HW0 := Lib.hid hw0
  clear hw0
  go_enter Try.func76, Try.ntmps76
  go_wp2_with fail
  rw [HW0.out]
  go_loopw [7] (fun i wr => ∃ (k : Nat), k ≤ n ∧ i = .int .i64 k ∧ Hid (checkKnots at_ v (lastOf ks k) (ks.drop k) = res) ∧ Hid (Below w0.heap.size w0 wr)) (fun i _ => n - (intOf i).toNat)
  case atStart => exact ⟨0, Nat.zero_le _, rfl, HR, Below.refl _ _⟩
  case round =>
    obtain ⟨k, hk, rfl, hr, BW⟩ := hrel
    have hbl := Lib.hid (hB0.trans (BW.out.mono hB0.size))
    have hsz := hbl.out.size
    have hlt0 := b0.lt
    have hsz0 := BW.out.size
    have hlw : w.heap.size < wr.heap.size := by omega
    have hbw : b < wr.heap.size := by omega
    have q0 := (b0.under BW.out).cell 0
    simp only [List.getElem?_toArray, List.getElem?_cons_zero] at q0
    by_cases hlt : k < n
    · obtain ⟨c0, c1⟩ := HK.out k hlt
      have e0 := oldCell hbl.out hb c0
      have e1 := oldCell hbl.out hb c1
      clear c0 c1
      have hst := Lib.hid (checkKnots_step at_ v (lastOf ks k) ks k (by rw [HN.out]; exact hlt))
      have hlast : Hid (lastOf ks (k + 1) = (kn ks k).At) := by unfold Hid; simp [lastOf]
      have hw1 : Hid (within (kn ks k).At 0 at_ = decide (0 ≤ (kn ks k).At ∧ (kn ks k).At ≤ at_)) := rfl
      have hw2 : Hid (within (kn ks k).V 0 v = decide (0 ≤ (kn ks k).V ∧ (kn ks k).V ≤ v)) := rfl
      have hl0 : Hid (k = 0 → lastOf ks k = -1) := fun h => by simp [lastOf, h]
      have hl1 : Hid (0 < k → lastOf ks k = (kn ks (k - 1)).At) := fun h => by simp [lastOf, show k ≠ 0 by omega]
      generalize lastOf ks k = la at *
      generalize (kn ks k).At = ka at *
      generalize (kn ks k).V = kv at *
      by_cases g : 0 ≤ ka ∧ ka ≤ at_ ∧ 0 ≤ kv ∧ kv ≤ v
      case neg =>
        have hf : Hid (res = 2) := by
          unfold Hid
          rw [← hr.out, hst.out, if_neg]
          rw [hw1.out, hw2.out]
          simp
          omega
        have gc : ka < 0 ∨ (0 ≤ ka ∧ at_ < ka) ∨ (0 ≤ ka ∧ ka ≤ at_ ∧ kv < 0) ∨ (0 ≤ ka ∧ ka ≤ at_ ∧ 0 ≤ kv ∧ v < kv) := by omega
        clear g
        rcases gc with g1 | ⟨g1, g2⟩ | ⟨g1, g2, g3⟩ | ⟨g1, g2, g3, g4⟩
        · have f1 : decide (ka < 0) = true := decide_eq_true g1
          go_wp2_with fail
          go_ret
          exact ⟨ret_int hf.out.symm, hbl.out.alloc hsz _⟩
        · have f1 : decide (ka < 0) = false := decide_eq_false (by omega)
          have f2 : decide (at_ < ka) = true := decide_eq_true g2
          go_wp2_with fail
          go_ret
          exact ⟨ret_int hf.out.symm, hbl.out.alloc hsz _⟩
        · have f1 : decide (ka < 0) = false := decide_eq_false (by omega)
          have f2 : decide (at_ < ka) = false := decide_eq_false (by omega)
          have f3 : decide (kv < 0) = true := decide_eq_true g3
          go_wp2_with fail
          go_ret
          exact ⟨ret_int hf.out.symm, hbl.out.alloc hsz _⟩
        · have f1 : decide (ka < 0) = false := decide_eq_false (by omega)
          have f2 : decide (at_ < ka) = false := decide_eq_false (by omega)
          have f3 : decide (kv < 0) = false := decide_eq_false (by omega)
          have f4 : decide (v < kv) = true := decide_eq_true g4
          go_wp2_with fail
          go_ret
          exact ⟨ret_int hf.out.symm, hbl.out.alloc hsz _⟩
      obtain ⟨g1, g2, g3, g4⟩ := g
      have f1 : decide (ka < 0) = false := decide_eq_false (by omega)
      have f2 : decide (at_ < ka) = false := decide_eq_false (by omega)
      have f3 : decide (kv < 0) = false := decide_eq_false (by omega)
      have f4 : decide (v < kv) = false := decide_eq_false (by omega)
      have hgo : Hid (res = if ka ≤ la then 11 else checkKnots at_ v ka (ks.drop (k + 1))) := by
        unfold Hid
        rw [← hr.out, hst.out, hw1.out, hw2.out, if_pos (by simp [g1, g2, g3, g4])]
      by_cases hk0 : k = 0
      · have hla := hl0.out hk0
        have hgo2 : Hid (checkKnots at_ v ka (ks.drop (k + 1)) = res) := by unfold Hid; rw [hgo.out, if_neg (by omega)]
        subst hk0
        clear hla
        simp only [Nat.zero_mul, Nat.add_zero] at e0 e1
        go_wp2_with fail
        go_quiet (fail)
        go_wp2_with fail
        go_roundw
        case rel => exact ⟨0 + 1, hlt, by go_num, by unfold Hid; rw [hlast.out]; exact hgo2.out, belowDrewN (BW.out.alloc hsz0 _) _⟩
        case measure => simp [intOf]; omega
      · obtain ⟨c2, _⟩ := HK.out (k - 1) (by omega)
        have e2 := oldCell hbl.out hb c2
        rw [← hl1.out (by omega)] at e2
        clear c2
        have hkp : 0 < k := by omega
        have hkp' : decide ((0 : Int) < (k : Int)) = true := decide_eq_true (by omega)
        clear hk0
        by_cases g5 : ka ≤ la
        · have f5 : decide (ka ≤ la) = true := decide_eq_true g5
          have hf : Hid (res = 11) := by unfold Hid; rw [hgo.out, if_pos g5]
          go_wp2_with fail
          go_quiet (fail)
          go_wp2_with fail
          go_ret
          exact ⟨ret_int hf.out.symm, belowDrewN (hbl.out.alloc hsz _) _⟩
        · have f5 : decide (ka ≤ la) = false := decide_eq_false g5
          have hgo2 : Hid (checkKnots at_ v ka (ks.drop (k + 1)) = res) := by unfold Hid; rw [hgo.out, if_neg g5]
          go_wp2_with fail
          go_quiet (fail)
          go_wp2_with fail
          go_roundw
          case rel => exact ⟨k + 1, hlt, by go_num, by unfold Hid; rw [hlast.out]; exact hgo2.out, belowDrewN (BW.out.alloc hsz0 _) _⟩
          case measure => simp [intOf]; omega
    · go_wp2_with fail
      go_ret
      exact ⟨by rw [← hr.out, List.drop_eq_nil_of_le (by rw [HN.out]; omega)]; rfl, hbl.out⟩

end Go.Proofs.Ytbbgbidpglhkfaa

/- Walks of the reference of layer 2: the value of a line at a place. -/
namespace Go.Proofs.Ytbbgbidpglhkfaa
open Go.RowKit Go.Shelf Mpl

set_option maxHeartbeats 1000000 in
theorem ref02_CheckLine (v0 : Value) (ks : List Knot) (at_ v : Int) (w : World) (hv : LineV w w.heap.size v0 ks) :
    Calls Try.prog 76 #[v0, .int .i64 at_, .int .i64 v] w fun e w' => e = .returned (.int .i64 (checkLine ks at_ v)) ∧ Below w.heap.size w w' := by
  obtain ⟨A, c, rfl, hk⟩ := hv
  by_cases hr : 0 ≤ at_ ∧ at_ ≤ 1099511627776 ∧ 0 ≤ v ∧ v ≤ 68719476736
  case neg =>
    have hs : Hid (checkLine ks at_ v = 2) := by unfold Hid checkLine; rw [if_pos]; simp [within]; omega
    have hc : at_ < 0 ∨ (0 ≤ at_ ∧ 1099511627776 < at_) ∨ (0 ≤ at_ ∧ at_ ≤ 1099511627776 ∧ v < 0) ∨ (0 ≤ at_ ∧ at_ ≤ 1099511627776 ∧ 0 ≤ v ∧ 68719476736 < v) := by omega
    clear hk hr
    generalize ks.length = n at *
    rcases hc with h1 | ⟨h1, h2⟩ | ⟨h1, h2, h3⟩ | ⟨h1, h2, h3, h4⟩
    · have d1 : decide (at_ < 0) = true := decide_eq_true (by omega)
      go_enter Try.func76, Try.ntmps76
      go_wp2_with fail
      go_ret
      exact ⟨ret_int hs.out.symm, (by repeat (first | exact Below.refl _ _ | assumption | refine Below.setCell ?_ (by first | (simp; done) | (simp; omega)) _ | refine belowDrewN ?_ _ | refine Below.drew ?_ | refine Below.alloc ?_ (by first | (simp; done) | (simp; omega)) _))⟩
    · have d1 : decide (at_ < 0) = false := decide_eq_false (by omega)
      have d2 : decide (1099511627776 < at_) = true := decide_eq_true (by omega)
      go_enter Try.func76, Try.ntmps76
      go_wp2_with fail
      go_ret
      exact ⟨ret_int hs.out.symm, (by repeat (first | exact Below.refl _ _ | assumption | refine Below.setCell ?_ (by first | (simp; done) | (simp; omega)) _ | refine belowDrewN ?_ _ | refine Below.drew ?_ | refine Below.alloc ?_ (by first | (simp; done) | (simp; omega)) _))⟩
    · have d1 : decide (at_ < 0) = false := decide_eq_false (by omega)
      have d2 : decide (1099511627776 < at_) = false := decide_eq_false (by omega)
      have d3 : decide (v < 0) = true := decide_eq_true (by omega)
      go_enter Try.func76, Try.ntmps76
      go_wp2_with fail
      go_ret
      exact ⟨ret_int hs.out.symm, (by repeat (first | exact Below.refl _ _ | assumption | refine Below.setCell ?_ (by first | (simp; done) | (simp; omega)) _ | refine belowDrewN ?_ _ | refine Below.drew ?_ | refine Below.alloc ?_ (by first | (simp; done) | (simp; omega)) _))⟩
    · have d1 : decide (at_ < 0) = false := decide_eq_false (by omega)
      have d2 : decide (1099511627776 < at_) = false := decide_eq_false (by omega)
      have d3 : decide (v < 0) = false := decide_eq_false (by omega)
      have d4 : decide (68719476736 < v) = true := decide_eq_true (by omega)
      go_enter Try.func76, Try.ntmps76
      go_wp2_with fail
      go_ret
      exact ⟨ret_int hs.out.symm, (by repeat (first | exact Below.refl _ _ | assumption | refine Below.setCell ?_ (by first | (simp; done) | (simp; omega)) _ | refine belowDrewN ?_ _ | refine Below.drew ?_ | refine Below.alloc ?_ (by first | (simp; done) | (simp; omega)) _))⟩
  obtain ⟨h1, h2, h3, h4⟩ := hr
  have d1 : decide (at_ < 0) = false := decide_eq_false (by omega)
  have d2 : decide (1099511627776 < at_) = false := decide_eq_false (by omega)
  have d3 : decide (v < 0) = false := decide_eq_false (by omega)
  have d4 : decide (68719476736 < v) = false := decide_eq_false (by omega)
  have hw1 : within at_ 0 1099511627776 = true := by simp [within]; omega
  have hw2 : within v 0 68719476736 = true := by simp [within]; omega
  by_cases h0 : ks.length = 0
  · have hs : Hid (checkLine ks at_ v = 6) := by simp [checkLine, hw1, hw2, h0, Hid]
    clear hk hw1 hw2
    rw [h0]
    have hz : (((0 : Nat) : Int) == 0) = true := by simp
    clear h0
    go_enter Try.func76, Try.ntmps76
    go_wp2_with fail
    go_ret
    exact ⟨ret_int hs.out.symm, (by repeat (first | exact Below.refl _ _ | assumption | refine Below.setCell ?_ (by first | (simp; done) | (simp; omega)) _ | refine belowDrewN ?_ _ | refine Below.drew ?_ | refine Below.alloc ?_ (by first | (simp; done) | (simp; omega)) _))⟩
  by_cases h24 : 24 < ks.length
  · have hs : Hid (checkLine ks at_ v = 8) := by simp [checkLine, hw1, hw2, h0, h24, Hid]
    clear hk hw1 hw2
    have hz : ((ks.length : Int) == 0) = false := beq_eq_false_iff_ne.2 (by omega)
    have hz2 : decide ((24 : Int) < (ks.length : Int)) = true := decide_eq_true (by omega)
    clear h0
    generalize ks.length = n at *
    go_enter Try.func76, Try.ntmps76
    go_wp2_with fail
    go_ret
    exact ⟨ret_int hs.out.symm, (by repeat (first | exact Below.refl _ _ | assumption | refine Below.setCell ?_ (by first | (simp; done) | (simp; omega)) _ | refine belowDrewN ?_ _ | refine Below.drew ?_ | refine Below.alloc ?_ (by first | (simp; done) | (simp; omega)) _))⟩
  obtain ⟨b, off, rfl, hb, hc⟩ := hk.out (by omega)
  have hs : checkLine ks at_ v = checkKnots at_ v (-1) ks := by simp [checkLine, hw1, hw2, h0, h24]
  rw [hs]
  exact ref02_CheckLine_loop ks b off c at_ v w hb hc (by omega) (by omega) h1 h2 h3 h4

set_option maxHeartbeats 1000000 in
theorem ref02_right (v0 : Value) (ks : List Knot) (w : World) (hv : LineV w w.heap.size v0 ks) :
    Calls Try.prog 56 #[v0] w fun e w' => e = .returned (.bool (right ks)) ∧ Below w.heap.size w w' := by
  have HV := Lib.hid hv
  obtain ⟨A, c, rfl, _⟩ := hv
  have HC1 := Lib.hid (fun W (hW : Below w.heap.size w W) => ref02_CheckLine _ ks 1048576 68719476736 W (HV.out.below hW))
  have HC2 := Lib.hid (fun W (hW : Below w.heap.size w W) => ref02_CheckLine _ ks 1099511627776 1048576 W (HV.out.below hW))
  have hR : Hid (right ks = (decide (checkLine ks 1048576 68719476736 = 0) || decide (checkLine ks 1099511627776 1048576 = 0))) := rfl
  generalize right ks = res at *
  generalize checkLine ks 1048576 68719476736 = e1 at *
  generalize checkLine ks 1099511627776 1048576 = e2 at *
  generalize ks.length = n at *
  have B0 := Lib.hid (Box.new w 46 #[.slice A n c] rfl)
  have HB := Lib.hid ((Below.refl w.heap.size w).alloc (Nat.le_refl _) (.cells #[.slice A n c] 46))
  by_cases h1 : e1 = 0
  · have h1' : (e1 == 0) = true := by simpa using h1
    go_enter Try.func56, Try.ntmps56
    go_wp2_with fail
    refine (HC1.out _ HB.out).mono ?_
    rintro e w1 ⟨rfl, hb1⟩
    go_wp2_with fail
    go_ret
    exact ⟨ret_bool (by rw [hR.out]; simp [h1]), HB.out.trans (hb1.mono HB.out.size)⟩
  · have h1' : (e1 == 0) = false := by simpa using h1
    go_enter Try.func56, Try.ntmps56
    go_wp2_with fail
    refine (HC1.out _ HB.out).mono ?_
    rintro e w1 ⟨rfl, hb1⟩
    have hB1 := HB.out.trans (hb1.mono HB.out.size)
    have q0 := (B0.out.under hb1).cell 0
    simp only [List.getElem?_toArray, List.getElem?_cons_zero] at q0
    go_wp2_with fail
    refine (HC2.out _ hB1).mono ?_
    rintro e w2 ⟨rfl, hb2⟩
    go_wp2_with fail
    go_ret
    exact ⟨ret_bool (by rw [hR.out]; simp only [h1, decide_false, Bool.false_or]; rfl), hB1.trans (hb2.mono hB1.size)⟩

theorem ref02_floor (a b : Int) (w : World) (hb : 0 < b) (ha1 : -4611686018427387904 ≤ a) (ha2 : a ≤ 4611686018427387904) (hb2 : b ≤ 4611686018427387904) :
    Calls Try.prog 77 #[.int .i64 a, .int .i64 b] w fun e w' => e = .returned (.int .i64 (a / b)) ∧ w' = w := by
  have hz : (b == 0) = false := beq_eq_false_iff_ne.2 (by omega)
  have hf := Lib.hid (floor_eq a b hb)
  have hd1 : -4611686018427387904 ≤ a / b := Int.le_ediv_of_mul_le hb (by have := Int.mul_le_mul_of_nonneg_left (show (1 : Int) ≤ b by omega) (show (0 : Int) ≤ 4611686018427387904 by omega); omega)
  by_cases hm : a.tmod b < 0
  · have hm' : decide (a.tmod b < 0) = true := decide_eq_true hm
    go_enter Try.func77, Try.ntmps77
    go_wp2
    go_ret
    have := hf.out
    rw [if_pos hm] at this
    refine ⟨ret_int ?_, rfl⟩
    rw [this]
    refine IntWalk.wrap64_in _ ⟨by omega, ?_⟩
    have h2 : a / b ≤ 4611686018427387904 / b := Int.ediv_le_ediv hb ha2
    have h3 : (4611686018427387904 : Int) / b ≤ 4611686018427387904 := Int.ediv_le_self _ (by omega)
    omega
  · go_enter Try.func77, Try.ntmps77
    go_wp2
    go_ret
    have := hf.out
    rw [if_neg (by omega)] at this
    exact ⟨ret_int this.symm, rfl⟩

end Go.Proofs.Ytbbgbidpglhkfaa

/- Walks of the reference of layer 2: the value of a line at a place. -/
namespace Go.Proofs.Ytbbgbidpglhkfaa
open Go.RowKit Go.Shelf Mpl

set_option maxHeartbeats 8000000 in
set_option maxRecDepth 100000 in
theorem ref02_value_walk (ks : List Knot) (b off c n m : Nat) (x A0 A1 B0 B1 : Int) (w : World) (hb : b < w.heap.size) (hn : n ≤ 24) (hm0 : 0 < m) (hmn : m < n)
    (hk : ∀ i, i < n → w.cell? ⟨b, off + i * 2, none⟩ = some (.int .i64 (kn ks i).At) ∧ w.cell? ⟨b, off + i * 2 + 1, none⟩ = some (.int .i64 (kn ks i).V))
    (hf : (kn ks 0).At < x) (hl : x < (kn ks (n - 1)).At) (hlt : ∀ i, i < m → (kn ks i).At < x) (hge : x ≤ (kn ks m).At)
    (eA : kn ks (m - 1) = ⟨A0, A1⟩) (eB : kn ks m = ⟨B0, B1⟩)
    (h1 : A0 < B0) (h2 : -4611686018427387904 ≤ (B1 - A1) * (x - A0)) (h3 : (B1 - A1) * (x - A0) ≤ 4611686018427387904) (h4 : 0 ≤ A1) (h5 : A1 ≤ 68719476736) (h6 : 0 ≤ B1) (h7 : B1 ≤ 68719476736) (h8 : 0 ≤ A0) (h9 : B0 ≤ 1099511627776) (h10 : A0 < x) (h11 : x ≤ B0) :
    Calls Try.prog 57 #[.agg #[.slice (some ⟨b, off, none⟩) n c], .int .i64 x] w fun e w' => e = .returned (.agg #[.int .i64 (A1 + (B1 - A1) * (x - A0) / (B0 - A0)), .int .i64 (A1 - (-((B1 - A1) * (x - A0))) / (B0 - A0))]) ∧ Below w.heap.size w w' := by
  have HK := Lib.hid hk
  have HLT := Lib.hid hlt
  have HGE := Lib.hid hge
  obtain ⟨a0, a1⟩ := hk 0 (by omega)
  obtain ⟨l0, l1⟩ := hk (n - 1) (by omega)
  obtain ⟨p0, p1⟩ := hk (m - 1) (by omega)
  obtain ⟨r0, r1⟩ := hk m (by omega)
  rw [eA] at p0 p1
  rw [eB] at r0 r1
  dsimp only at p0 p1 r0 r1
  simp only [Nat.zero_mul, Nat.add_zero] at a0 a1
  clear hk hlt hge eA eB
  have hroom := part_room (B0 - A0) (B1 - A1) (x - A0) (by omega) (by omega) (by omega) (by omega)
  obtain ⟨hr1, hr2⟩ := hroom
  have hq1 : -68719476736 ≤ (B1 - A1) * (x - A0) / (B0 - A0) := Int.le_ediv_of_mul_le (by omega) hr1
  have hq2 : (B1 - A1) * (x - A0) / (B0 - A0) ≤ 68719476736 := Int.ediv_le_of_le_mul (by omega) hr2
  have hq3 : -68719476736 ≤ (-((B1 - A1) * (x - A0))) / (B0 - A0) := Int.le_ediv_of_mul_le (by omega) (by omega)
  have hq4 : (-((B1 - A1) * (x - A0))) / (B0 - A0) ≤ 68719476736 := Int.ediv_le_of_le_mul (by omega) (by omega)
  clear hr1 hr2
  have HALL := Lib.hid (show (A0 < B0 ∧ (-4611686018427387904 ≤ (B1 - A1) * (x - A0)) ∧ (B1 - A1) * (x - A0) ≤ 4611686018427387904) ∧ (0 ≤ A1 ∧ A1 ≤ 68719476736 ∧ 0 ≤ B1 ∧ B1 ≤ 68719476736 ∧ 0 ≤ A0 ∧ B0 ≤ 1099511627776 ∧ A0 < x ∧ x ≤ B0) ∧ (-68719476736 ≤ (B1 - A1) * (x - A0) / (B0 - A0) ∧ (B1 - A1) * (x - A0) / (B0 - A0) ≤ 68719476736 ∧ -68719476736 ≤ (-((B1 - A1) * (x - A0))) / (B0 - A0) ∧ (-((B1 - A1) * (x - A0))) / (B0 - A0) ≤ 68719476736) from ⟨⟨h1, h2, h3⟩, ⟨h4, h5, h6, h7, h8, h9, h10, h11⟩, hq1, hq2, hq3, hq4⟩)
  clear h1 h2 h3 h4 h5 h6 h7 h8 h9 h10 h11 hq1 hq2 hq3 hq4
  obtain ⟨wv, hwv⟩ : ∃ wv, ((w.alloc (.cells #[.slice (some ⟨b, off, none⟩) n c] 46)).alloc (.cells #[.int .i64 0, .int .i64 0] 27)) = wv := ⟨_, rfl⟩
  have b0 : Box wv w.heap.size 46 #[.slice (some ⟨b, off, none⟩) n c] := by rw [← hwv]; exact (Box.new w _ _ rfl).alloc _
  have b1 : Box wv (w.heap.size + 1) 27 #[.int .i64 0, .int .i64 0] := by rw [← hwv]; exact Box.new _ _ _ (by simp)
  have hB0 : Below w.heap.size w wv := by rw [← hwv]; exact (by repeat (first | exact Below.refl _ _ | assumption | refine Below.setCell ?_ (by first | (simp; done) | (simp; omega)) _ | refine belowDrewN ?_ _ | refine Below.drew ?_ | refine Below.alloc ?_ (by first | (simp; done) | (simp; omega)) _))
  have HWV := Lib.hid hwv
  clear hwv
  have HB0 := Lib.hid b0
  have HB1 := Lib.hid b1
  have HBB0 := Lib.hid hB0
  have q0 := b0.cell 0
  simp only [List.getElem?_toArray, List.getElem?_cons_zero] at q0
  have e0 := oldCell hB0 hb a0
  have e1 := oldCell hB0 hb a1
  have e2 := oldCell hB0 hb l0
  have e3 := oldCell hB0 hb l1
  have P0 := Lib.hid p0
  have P1 := Lib.hid p1
  have R0 := Lib.hid r0
  have R1 := Lib.hid r1
  have hbw : b < wv.heap.size := by have := hB0.size; omega
  have hb0 := b0.lt
  have hb1 := b1.lt
  clear a0 a1 l0 l1 p0 p1 r0 r1
  have d1 : decide (x ≤ (kn ks 0).At) = false := decide_eq_false (by omega)
  have d2 : decide ((kn ks (n - 1)).At ≤ x) = false := decide_eq_false (by omega)
  have hn0 : 0 < n := by omega
  clear hf hl b0 b1 hB0
  generalize (kn ks 0).At = f0 at *
  generalize (kn ks 0).V = f1 at *
  generalize (kn ks (n - 1)).At = g0 at *
  generalize (kn ks (n - 1)).V = g1 at *
  have z1 : IntKind.i64.wrap ((n : Int) - 1) = (n : Int) - 1 := IntWalk.i64_in _ (by omega)
  have z2 : (0 : Int) ≤ (n : Int) - 1 := by omega
  have z3 : ((n : Int) - 1).toNat = n - 1 := by omega
  have z4 : (n : Int) - 1 < (n : Int) := by omega
  have z5 : (1 : Int) ≤ (n : Int) := by omega
  have z6 : 1 ≤ n := by omega
  go_enter Try.func57, Try.ntmps57
  go_wp2_with fail
  rw [HWV.out]
  go_region_held3 (fun w' => w'.cell? ⟨w.heap.size, 0, none⟩ = some (.slice (some ⟨b, off, none⟩) n c) ∧ w'.cell? ⟨b, off, none⟩ = some (.int .i64 f0) ∧ w'.cell? ⟨b, off + 1, none⟩ = some (.int .i64 f1) ∧ w'.cell? ⟨b, off + (n - 1) * 2, none⟩ = some (.int .i64 g0) ∧ w'.cell? ⟨b, off + (n - 1) * 2 + 1, none⟩ = some (.int .i64 g1)) (go_keep) (first | fail)
  all_goals
    go_wp2_with fail
    clear z1 z2 z3 z4 z5 z6 e0 e1 e2 e3 d1 d2 q0 hb0 hb1 hbw
    generalize hwz : World.drew _ = wz
    have hBz : Below wv.heap.size wv wz := by rw [← hwz]; exact (by repeat (first | exact Below.refl _ _ | assumption | refine Below.setCell ?_ (by first | (simp; done) | (simp; omega)) _ | refine belowDrewN ?_ _ | refine Below.drew ?_ | refine Below.alloc ?_ (by first | (simp; done) | (simp; omega)) _))
    clear hwz
    have q0 := (HB0.out.under hBz).cell 0
    simp only [List.getElem?_toArray, List.getElem?_cons_zero] at q0
    have c1 := HB1.out.under hBz
    have hBB := HBB0.out.trans (hBz.mono HBB0.out.size)
    have hbw : b < wz.heap.size := by have := hBB.size; omega
    have hb0 := (HB0.out.under hBz).lt
    have hb1 := c1.lt
    go_loop [7] (fun s7 => ∃ i : Nat, i < m ∧ s7 = .int .i64 i) (fun s7 => m - (intOf s7).toNat)
    case atStart => exact ⟨0, hm0, rfl⟩
    case round =>
      obtain ⟨i, hi, rfl⟩ := hrel
      have c0 := oldCell hBB hb (HK.out (i + 1) (by omega)).1
      by_cases hlt2 : i + 1 < m
      · have dd : decide ((kn ks (i + 1)).At < x) = true := decide_eq_true (HLT.out (i + 1) hlt2)
        go_wp2_with fail
        go_round
        case rel => exact ⟨i + 1, hlt2, by go_num⟩
        case measure => simp [intOf]; omega
      · obtain rfl : m = i + 1 := by omega
        have dd : decide ((kn ks (i + 1)).At < x) = false := decide_eq_false (by have := HGE.out; omega)
        have p0 := oldCell hBB hb P0.out
        have p1 := oldCell hBB hb P1.out
        have r0 := oldCell hBB hb R0.out
        have r1 := oldCell hBB hb R1.out
        rw [Nat.add_sub_cancel] at p0 p1
        go_wp2_with fail
        clear c0 dd
        have HBB := Lib.hid hBB
        have HC1 := Lib.hid c1
        have him : i < n := by omega
        clear hBB c1 hBz hm0 hi hlt2
        have z1 : IntKind.i64.wrap ((i : Int) + 1) = (i : Int) + 1 := IntWalk.i64_in _ (by omega)
        have z2 : (0 : Int) ≤ (i : Int) + 1 := by omega
        have z3 : ((i : Int) + 1).toNat = i + 1 := by omega
        have z4 : (i : Int) + 1 < (n : Int) := by omega
        have z5 : (i : Int) < (n : Int) := by omega
        go_region_held3 (fun w' => w'.cell? ⟨w.heap.size, 0, none⟩ = some (.slice (some ⟨b, off, none⟩) n c) ∧ w'.cell? ⟨b, off + i * 2, none⟩ = some (.int .i64 A0) ∧ w'.cell? ⟨b, off + i * 2 + 1, none⟩ = some (.int .i64 A1) ∧ w'.cell? ⟨b, off + (i + 1) * 2, none⟩ = some (.int .i64 B0) ∧ w'.cell? ⟨b, off + (i + 1) * 2 + 1, none⟩ = some (.int .i64 B1)) (go_keep) (first | fail)
        all_goals
          clear z1 z2 z3 z4 z5
          obtain ⟨⟨h1, h2, h3⟩, ⟨h4, h5, h6, h7, h8, h9, h10, h11⟩, hq1, hq2, hq3, hq4⟩ := HALL.out
          go_wp2_with fail
          go_quiet (fail)
          go_wp2_with fail
          generalize hwy : World.drewN _ nq = wy
          have hBy : Below wz.heap.size wz wy := by rw [← hwy]; exact (by repeat (first | exact Below.refl _ _ | assumption | refine Below.setCell ?_ (by first | (simp; done) | (simp; omega)) _ | refine belowDrewN ?_ _ | refine Below.drew ?_ | refine Below.alloc ?_ (by first | (simp; done) | (simp; omega)) _))
          first
            | (have u0 : wy.cell? ⟨wz.heap.size, 1, none⟩ = some (.int .i64 A1) := by
                rw [← hwy]
                exact (((Box.new wz 91 #[.int .i64 A0, .int .i64 A1] rfl).alloc _).drew.drewN _).cell 1)
            | (have u0 : wy.cell? ⟨wz.heap.size + 1, 1, none⟩ = some (.int .i64 A1) := by
                rw [← hwy]
                exact ((Box.new (wz.alloc _) 91 #[.int .i64 A0, .int .i64 A1] (by simp)).drew.drewN _).cell 1)
          clear hwy
          have c1 := HC1.out.under hBy
          have u1 := c1.cell 0
          have u2 := c1.cell 1
          have u3 := c1.frozen 0
          have u4 := c1.frozen 1
          have hBW := Lib.hid (HBB.out.trans (hBy.mono HBB.out.size))
          simp only [List.getElem?_toArray, List.getElem?_cons_zero, List.getElem?_cons_succ] at u1 u2
          clear hBy c1
          have v1 : IntKind.i64.wrap (A1 + (B1 - A1) * (x - A0) / (B0 - A0)) = A1 + (B1 - A1) * (x - A0) / (B0 - A0) := IntWalk.i64_in _ (by omega)
          have v2 : IntKind.i64.wrap (-((B1 - A1) * (x - A0))) = -((B1 - A1) * (x - A0)) := IntWalk.i64_in _ (by omega)
          have v3 : IntKind.i64.wrap (A1 - -((B1 - A1) * (x - A0)) / (B0 - A0)) = A1 - -((B1 - A1) * (x - A0)) / (B0 - A0) := IntWalk.i64_in _ (by omega)
          have k1 := fun W => ref02_floor ((B1 - A1) * (x - A0)) (B0 - A0) W (by omega) h2 h3 (by omega)
          have k2 := fun W => ref02_floor (-((B1 - A1) * (x - A0))) (B0 - A0) W (by omega) (by omega) (by omega) (by omega)
          have K1 := Lib.hid k1
          have K2 := Lib.hid k2
          clear k1 k2 h1 h2 h3 h4 h5 h6 h7 h8 h9 h10 h11 hq1 hq2 hq3 hq4
          refine wp_region_still_tail 14 mixed (by kernel_rfl) ?_
          simp only [List.take_succ_cons, List.take_zero, List.drop_succ_cons, List.drop_zero]
          repeat still_step
          still_call (K1.out _)
          repeat still_step
          still_call (K2.out _)
          repeat still_step
          refine wpStill_nil ?_
          change wpList _ _ _ _ _ wy.drew
          go_wp2_with fail
          refine bodyPost_ret ?_ rfl ⟨rfl, ?_⟩
          · simp [results, Try.results57, go_sem, u1, u2]
          · exact (hBW.out.drew.setCell (by simp) _).setCell (by simp) _

end Go.Proofs.Ytbbgbidpglhkfaa

/- Walks of the reference of layer 2: the value of a line at a place, second part. -/
namespace Go.Proofs.Ytbbgbidpglhkfaa
open Go.RowKit Go.Shelf Mpl

theorem load_range {w : World} {g : Nat} {x y : Int} {t : Nat} (b : Box w g t #[.int .i64 x, .int .i64 y]) : (loadVar 27 ⟨g, 0, none⟩).run Try.prog w = .ok (.agg #[.int .i64 x, .int .i64 y]) w := by
  have q0 := b.cell 0
  have q1 := b.cell 1
  simp only [List.getElem?_toArray, List.getElem?_cons_zero, List.getElem?_cons_succ] at q0 q1
  simp [go_sem, q0, q1]

set_option maxHeartbeats 4000000 in
set_option maxRecDepth 100000 in
theorem ref02_value_ends (ks : List Knot) (b off c n : Nat) (x : Int) (w : World) (hb : b < w.heap.size) (hn : n ≤ 24) (hn0 : 0 < n)
    (hk : ∀ i, i < n → w.cell? ⟨b, off + i * 2, none⟩ = some (.int .i64 (kn ks i).At) ∧ w.cell? ⟨b, off + i * 2 + 1, none⟩ = some (.int .i64 (kn ks i).V))
    (V : Int) (hx : (x ≤ (kn ks 0).At ∧ V = (kn ks 0).V) ∨ ((kn ks 0).At < x ∧ (kn ks (n - 1)).At ≤ x ∧ V = (kn ks (n - 1)).V)) :
    Calls Try.prog 57 #[.agg #[.slice (some ⟨b, off, none⟩) n c], .int .i64 x] w fun e w' => e = .returned (.agg #[.int .i64 V, .int .i64 V]) ∧ Below w.heap.size w w' := by
  obtain ⟨a0, a1⟩ := hk 0 (by omega)
  obtain ⟨l0, l1⟩ := hk (n - 1) (by omega)
  simp only [Nat.zero_mul, Nat.add_zero] at a0 a1
  clear hk
  obtain ⟨wv, hwv⟩ : ∃ wv, ((w.alloc (.cells #[.slice (some ⟨b, off, none⟩) n c] 46)).alloc (.cells #[.int .i64 0, .int .i64 0] 27)) = wv := ⟨_, rfl⟩
  have b0 : Box wv w.heap.size 46 #[.slice (some ⟨b, off, none⟩) n c] := by rw [← hwv]; exact (Box.new w _ _ rfl).alloc _
  have b1 : Box wv (w.heap.size + 1) 27 #[.int .i64 0, .int .i64 0] := by rw [← hwv]; exact Box.new _ _ _ (by simp)
  have hB0 : Below w.heap.size w wv := by rw [← hwv]; exact (by repeat (first | exact Below.refl _ _ | assumption | refine Below.setCell ?_ (by first | (simp; done) | (simp; omega)) _ | refine belowDrewN ?_ _ | refine Below.drew ?_ | refine Below.alloc ?_ (by first | (simp; done) | (simp; omega)) _))
  have HWV := Lib.hid hwv
  clear hwv
  have HBB0 := Lib.hid hB0
  have q0 := b0.cell 0
  have u1 := b1.cell 0
  have u2 := b1.cell 1
  have u3 := b1.frozen 0
  have u4 := b1.frozen 1
  simp only [List.getElem?_toArray, List.getElem?_cons_zero, List.getElem?_cons_succ] at q0 u1 u2
  have e0 := oldCell hB0 hb a0
  have e1 := oldCell hB0 hb a1
  have e2 := oldCell hB0 hb l0
  have e3 := oldCell hB0 hb l1
  have hbw : b < wv.heap.size := by have := hB0.size; omega
  have hb0 := b0.lt
  have hb1 := b1.lt
  have H5 := Lib.hid (show Box ((wv.setCell ⟨w.heap.size + 1, 0, none⟩ (.int .i64 V)).setCell ⟨w.heap.size + 1, 1, none⟩ (.int .i64 V)) (w.heap.size + 1) 27 #[.int .i64 V, .int .i64 V] by simpa using (b1.set_ 0 (.int .i64 V)).set_ 1 (.int .i64 V))
  clear a0 a1 l0 l1 b0 b1 hB0
  generalize (kn ks 0).At = f0 at *
  generalize (kn ks 0).V = f1 at *
  generalize (kn ks (n - 1)).At = g0 at *
  generalize (kn ks (n - 1)).V = g1 at *
  have z1 : IntKind.i64.wrap ((n : Int) - 1) = (n : Int) - 1 := IntWalk.i64_in _ (by omega)
  have z2 : (0 : Int) ≤ (n : Int) - 1 := by omega
  have z3 : ((n : Int) - 1).toNat = n - 1 := by omega
  have z4 : (n : Int) - 1 < (n : Int) := by omega
  have z5 : (1 : Int) ≤ (n : Int) := by omega
  have z6 : 1 ≤ n := by omega
  rcases hx with ⟨hx, rfl⟩ | ⟨hx1, hx2, rfl⟩
  · have d1 : decide (x ≤ f0) = true := decide_eq_true hx
    go_enter Try.func57, Try.ntmps57
    go_wp2_with fail
    rw [HWV.out]
    go_region_held3 (fun w' => w'.cell? ⟨w.heap.size, 0, none⟩ = some (.slice (some ⟨b, off, none⟩) n c) ∧ w'.cell? ⟨b, off, none⟩ = some (.int .i64 f0) ∧ w'.cell? ⟨b, off + 1, none⟩ = some (.int .i64 V) ∧ w'.cell? ⟨b, off + (n - 1) * 2, none⟩ = some (.int .i64 g0) ∧ w'.cell? ⟨b, off + (n - 1) * 2 + 1, none⟩ = some (.int .i64 g1)) (go_keep) (first | fail)
    all_goals
      clear z1 z2 z3 z4 z5 z6
      go_wp2_with fail
      refine bodyPost_ret (results_cell1 rfl _ _ _ (w.heap.size + 1) (.agg #[.int .i64 V, .int .i64 V]) rfl (load_range ((H5.out.alloc _).alloc _).drew)) rfl ⟨rfl, ?_⟩
      exact (((HBB0.out.setCell (p := ⟨w.heap.size + 1, 0, none⟩) (by simp) _).setCell (p := ⟨w.heap.size + 1, 1, none⟩) (by simp) _).alloc (by have := HBB0.out.size; simp; omega) _).alloc (by have := HBB0.out.size; simp; omega) _ |>.drew
  · have d1 : decide (x ≤ f0) = false := decide_eq_false (by omega)
    have d2 : decide (g0 ≤ x) = true := decide_eq_true hx2
    go_enter Try.func57, Try.ntmps57
    go_wp2_with fail
    rw [HWV.out]
    go_region_held3 (fun w' => w'.cell? ⟨w.heap.size, 0, none⟩ = some (.slice (some ⟨b, off, none⟩) n c) ∧ w'.cell? ⟨b, off, none⟩ = some (.int .i64 f0) ∧ w'.cell? ⟨b, off + 1, none⟩ = some (.int .i64 f1) ∧ w'.cell? ⟨b, off + (n - 1) * 2, none⟩ = some (.int .i64 g0) ∧ w'.cell? ⟨b, off + (n - 1) * 2 + 1, none⟩ = some (.int .i64 V)) (go_keep) (first | fail)
    all_goals
      clear z1 z2 z3 z4 z5 z6
      go_wp2_with fail
      refine bodyPost_ret (results_cell1 rfl _ _ _ (w.heap.size + 1) (.agg #[.int .i64 V, .int .i64 V]) rfl (load_range ((H5.out.alloc _).alloc _).drew)) rfl ⟨rfl, ?_⟩
      exact (((HBB0.out.setCell (p := ⟨w.heap.size + 1, 0, none⟩) (by simp) _).setCell (p := ⟨w.heap.size + 1, 1, none⟩) (by simp) _).alloc (by have := HBB0.out.size; simp; omega) _).alloc (by have := HBB0.out.size; simp; omega) _ |>.drew

theorem ref02_value (ks : List Knot) (v0 : Value) (x : Int) (w : World) (hv : LineV w w.heap.size v0 ks) (hr : right ks = true) :
    Calls Try.prog 57 #[v0, .int .i64 x] w fun e w' => e = .returned (.agg #[.int .i64 (value ks x).Lo, .int .i64 (value ks x).Hi]) ∧ Below w.heap.size w w' := by
  obtain ⟨a, v, hg, ha, hvv, hav⟩ := right_good hr
  obtain ⟨A, c, rfl, hk⟩ := hv
  have hpos := hg.pos
  obtain ⟨b, off, rfl, hb, hc⟩ := hk.out hpos
  have hle := before_le x ks
  have hfew := hg.few
  by_cases h0 : before x ks = 0
  · rw [show value ks x = ⟨(kn ks 0).V, (kn ks 0).V⟩ by simp [value, h0]]
    have hx := before_ge x ks (by omega)
    rw [h0] at hx
    exact ref02_value_ends ks b off c ks.length x w hb hfew hpos hc _ (.inl ⟨hx, rfl⟩)
  have hf := before_lt x ks 0 (by omega)
  by_cases hn : before x ks = ks.length
  · rw [show value ks x = ⟨(kn ks (ks.length - 1)).V, (kn ks (ks.length - 1)).V⟩ by unfold value; rw [if_neg h0, if_pos hn]]
    have hx := before_lt x ks (ks.length - 1) (by omega)
    exact ref02_value_ends ks b off c ks.length x w hb hfew hpos hc _ (.inr ⟨hf, by omega, rfl⟩)
  have hvl : value ks x = between (kn ks (before x ks - 1)) (kn ks (before x ks)) x := by unfold value; rw [if_neg h0, if_neg hn]
  rw [hvl, between]
  dsimp only
  have hlt1 := hg.up (before x ks - 1) (by omega)
  rw [show before x ks - 1 + 1 = before x ks by omega] at hlt1
  have hlt2 := before_lt x ks (before x ks - 1) (by omega)
  have hge := before_ge x ks (by omega)
  have va := hg.v0 (before x ks - 1) (by omega)
  have vb := hg.v0 (before x ks) (by omega)
  have aa := hg.at0 (before x ks - 1) (by omega)
  have ab := hg.at0 (before x ks) (by omega)
  by_cases hl : (kn ks (ks.length - 1)).At ≤ x
  · have hm : before x ks = ks.length - 1 := by
      rcases Nat.lt_or_ge (before x ks) (ks.length - 1) with h | h
      · have := hg.lt h (by omega); omega
      · omega
    have hxe : (kn ks (before x ks)).At = x := by rw [hm] at hge ⊢; omega
    have hvv : ∀ ka kb : Knot, ka.At < kb.At → kb.At = x → ka.V + (kb.V - ka.V) * (x - ka.At) / (kb.At - ka.At) = kb.V ∧ ka.V - -((kb.V - ka.V) * (x - ka.At)) / (kb.At - ka.At) = kb.V := fun ka kb h1 h2 => by
      subst h2
      have e1 : (kb.V - ka.V) * (kb.At - ka.At) / (kb.At - ka.At) = kb.V - ka.V := Int.mul_ediv_cancel _ (by omega)
      have e2 : -((kb.V - ka.V) * (kb.At - ka.At)) / (kb.At - ka.At) = -(kb.V - ka.V) := by rw [← Int.neg_mul]; exact Int.mul_ediv_cancel _ (by omega)
      rw [e1, e2]
      omega
    obtain ⟨e1, e2⟩ := hvv _ _ hlt1 hxe
    rw [e1, e2, hm]
    exact ref02_value_ends ks b off c ks.length x w hb hfew hpos hc _ (.inr ⟨hf, hl, rfl⟩)
  · have hp := prod_small ((kn ks (before x ks)).V - (kn ks (before x ks - 1)).V) (x - (kn ks (before x ks - 1)).At) a v (by omega) (by omega) (by omega) (by omega) hav
    exact ref02_value_walk ks b off c ks.length (before x ks) x _ _ _ _ w hb hfew (by omega) (by omega) hc hf (by omega) (before_lt x ks) hge rfl rfl hlt1 hp.1 hp.2 va.1 (by omega) vb.1 (by omega) aa.1 (by omega) hlt2 hge

set_option maxHeartbeats 1000000 in
theorem ref02_At (ks : List Knot) (v0 : Value) (x : Int) (w : World) (hv : LineV w w.heap.size v0 ks) :
    Calls Try.prog 30 #[v0, .int .i64 x] w fun e w' => e = .returned (.agg #[.int .i64 (At ks x).Lo, .int .i64 (At ks x).Hi]) ∧ Below w.heap.size w w' := by
  have HV := Lib.hid hv
  obtain ⟨A, c, rfl, hk⟩ := hv
  clear hk
  have HR := Lib.hid (fun W (hW : Below w.heap.size w W) => ref02_right _ ks W (HV.out.below hW))
  have HVL := Lib.hid (fun h W (hW : Below w.heap.size w W) => ref02_value ks _ x W (HV.out.below hW) h)
  generalize ks.length = n at *
  obtain ⟨wv, hwv⟩ : ∃ wv, ((w.alloc (.cells #[.slice A n c] 46)).alloc (.cells #[.int .i64 0, .int .i64 0] 27)) = wv := ⟨_, rfl⟩
  have b0 : Box wv w.heap.size 46 #[.slice A n c] := by rw [← hwv]; exact (Box.new w _ _ rfl).alloc _
  have b1 : Box wv (w.heap.size + 1) 27 #[.int .i64 0, .int .i64 0] := by rw [← hwv]; exact Box.new _ _ _ (by simp)
  have hB0 : Below w.heap.size w wv := by rw [← hwv]; exact (by repeat (first | exact Below.refl _ _ | assumption | refine Below.setCell ?_ (by first | (simp; done) | (simp; omega)) _ | refine belowDrewN ?_ _ | refine Below.drew ?_ | refine Below.alloc ?_ (by first | (simp; done) | (simp; omega)) _))
  have HWV := Lib.hid hwv
  clear hwv
  cases hr : right ks
  · have hs := Lib.hid (show At ks x = ⟨0, 0⟩ by simp [At, hr])
    rw [hr] at HR
    clear HVL hr
    go_enter Try.func30, Try.ntmps30
    go_wp2_with fail
    rw [HWV.out]
    refine (HR.out _ hB0).mono ?_
    rintro e w1 ⟨rfl, hb1⟩
    have c1 := b1.under hb1
    have hB1 := hB0.trans (hb1.mono hB0.size)
    have q1 := c1.cell 0
    have q2 := c1.cell 1
    have q5 := c1.frozen 0
    have q6 := c1.frozen 1
    simp only [List.getElem?_toArray, List.getElem?_cons_zero, List.getElem?_cons_succ] at q1 q2
    go_wp2_with fail
    refine bodyPost_ret (v := .agg #[.int .i64 0, .int .i64 0]) (results_cell1 rfl _ _ _ (w.heap.size + 1) _ rfl (load_range (t := 27) ?_)) rfl ⟨by rw [hs.out], ?_⟩
    · simpa using (c1.set_ 0 (.int .i64 0)).set_ 1 (.int .i64 0)
    · exact (hB1.setCell (by simp) _).setCell (by simp) _
  · have hs := Lib.hid (show At ks x = value ks x by simp [At, hr])
    rw [hr] at HR
    replace HVL := Lib.hid (HVL.out hr)
    clear hr
    go_enter Try.func30, Try.ntmps30
    go_wp2_with fail
    rw [HWV.out]
    refine (HR.out _ hB0).mono ?_
    rintro e w1 ⟨rfl, hb1⟩
    have hB1 := hB0.trans (hb1.mono hB0.size)
    have q0 := (b0.under hb1).cell 0
    simp only [List.getElem?_toArray, List.getElem?_cons_zero] at q0
    go_wp2_with fail
    refine (HVL.out _ hB1).mono ?_
    rintro e w2 ⟨rfl, hb2⟩
    have c1 := (b1.under hb1).under hb2
    have hB2 := hB1.trans (hb2.mono hB1.size)
    have q1 := c1.cell 0
    have q2 := c1.cell 1
    have q5 := c1.frozen 0
    have q6 := c1.frozen 1
    simp only [List.getElem?_toArray, List.getElem?_cons_zero, List.getElem?_cons_succ] at q1 q2
    clear q0
    go_wp2_with fail
    refine bodyPost_ret (v := .agg #[.int .i64 (value ks x).Lo, .int .i64 (value ks x).Hi]) (results_cell1 rfl _ _ _ (w.heap.size + 1) _ rfl (load_range (t := 27) ?_)) rfl ⟨by rw [hs.out], ?_⟩
    · simpa using (c1.set_ 0 (.int .i64 (value ks x).Lo)).set_ 1 (.int .i64 (value ks x).Hi)
    · exact (hB2.setCell (by simp) _).setCell (by simp) _

end Go.Proofs.Ytbbgbidpglhkfaa

/- Plain laws of lines that never fall, and of the pressure in a column. No Go in sight. -/
namespace Mpl

def NoFall (ks : List Knot) : Prop := ∀ i, i + 1 < ks.length → (kn ks i).V ≤ (kn ks (i + 1)).V
theorem NoFall.le {ks : List Knot} (h : NoFall ks) {i j : Nat} (hij : i ≤ j) (hj : j < ks.length) : (kn ks i).V ≤ (kn ks j).V := by
  induction j with
  | zero => have : i = 0 := by omega
            rw [this]; exact Int.le_refl _
  | succ j ih =>
    by_cases e : i = j + 1
    · rw [e]; exact Int.le_refl _
    · have := ih (by omega) (by omega)
      have := h j hj
      omega

theorem between_ends (a b : Knot) (x : Int) (h1 : a.At < b.At) (h2 : a.At ≤ x) (h3 : x ≤ b.At) (hv : a.V ≤ b.V) : a.V ≤ (between a b x).Lo ∧ (between a b x).Hi ≤ b.V := by
  have hd : 0 < b.At - a.At := by omega
  have hN : 0 ≤ (b.V - a.V) * (x - a.At) := Int.mul_nonneg (by omega) (by omega)
  have hM : (b.V - a.V) * (x - a.At) ≤ (b.V - a.V) * (b.At - a.At) := Int.mul_le_mul_of_nonneg_left (by omega) (by omega)
  have q1 := Int.ediv_nonneg hN (show 0 ≤ b.At - a.At by omega)
  have q2 : -(b.V - a.V) ≤ (-((b.V - a.V) * (x - a.At))) / (b.At - a.At) := Int.le_ediv_of_mul_le hd (by rw [Int.neg_mul]; omega)
  simp only [between]
  omega
theorem between_mono (a b : Knot) (x y : Int) (h1 : a.At < b.At) (hxy : x ≤ y) (hv : a.V ≤ b.V) : (between a b x).Lo ≤ (between a b y).Lo ∧ (between a b x).Hi ≤ (between a b y).Hi := by
  have hd : 0 < b.At - a.At := by omega
  have hM : (b.V - a.V) * (x - a.At) ≤ (b.V - a.V) * (y - a.At) := Int.mul_le_mul_of_nonneg_left (by omega) (by omega)
  have q1 := Int.ediv_le_ediv hd hM
  have q2 := Int.ediv_le_ediv hd (show -((b.V - a.V) * (y - a.At)) ≤ -((b.V - a.V) * (x - a.At)) by omega)
  simp only [between]
  omega

theorem before_mono (ks : List Knot) (x y : Int) (h : x ≤ y) : before x ks ≤ before y ks := by
  induction ks with
  | nil => simp [before]
  | cons k ks ih =>
    rw [before, before]
    split
    · rw [if_pos (by omega)]; omega
    · omega

theorem value_low {ks : List Knot} {a v : Int} (h : GoodLine ks a v) (hn : NoFall ks) (x : Int) (h0 : 0 < before x ks) : (kn ks (before x ks - 1)).V ≤ (value ks x).Lo := by
  have hl := before_le x ks
  unfold value
  rw [if_neg (by omega)]
  split
  · rename_i he
    rw [he]
    exact Int.le_refl _
  · have h1 := h.up (before x ks - 1) (by omega)
    have h2 := hn (before x ks - 1) (by omega)
    rw [show before x ks - 1 + 1 = before x ks by omega] at h1 h2
    have h3 := before_lt x ks (before x ks - 1) (by omega)
    have h4 := before_ge x ks (by omega)
    exact (between_ends _ _ x h1 (by omega) h4 h2).1
theorem value_high {ks : List Knot} {a v : Int} (h : GoodLine ks a v) (hn : NoFall ks) (x : Int) (h0 : before x ks < ks.length) : (value ks x).Hi ≤ (kn ks (before x ks)).V := by
  unfold value
  split
  · rename_i he
    rw [he]
    exact Int.le_refl _
  · rw [if_neg (by omega)]
    have h1 := h.up (before x ks - 1) (by omega)
    have h2 := hn (before x ks - 1) (by omega)
    rw [show before x ks - 1 + 1 = before x ks by omega] at h1 h2
    have h3 := before_lt x ks (before x ks - 1) (by omega)
    have h4 := before_ge x ks (by omega)
    exact (between_ends _ _ x h1 (by omega) h4 h2).2

/-- a line that never falls: both ends of its value grow -/
theorem value_mono {ks : List Knot} {a v : Int} (h : GoodLine ks a v) (hn : NoFall ks) {x y : Int} (hxy : x ≤ y) : (value ks x).Lo ≤ (value ks y).Lo ∧ (value ks x).Hi ≤ (value ks y).Hi := by
  have hb := before_mono ks x y hxy
  have hl := before_le y ks
  by_cases e : before x ks = before y ks
  · unfold value
    rw [e]
    split
    · exact ⟨Int.le_refl _, Int.le_refl _⟩
    · split
      · exact ⟨Int.le_refl _, Int.le_refl _⟩
      · have h1 := h.up (before y ks - 1) (by omega)
        have h2 := hn (before y ks - 1) (by omega)
        rw [show before y ks - 1 + 1 = before y ks by omega] at h1 h2
        exact between_mono _ _ x y h1 hxy h2
  · have h1 := value_high h hn x (by omega)
    have h2 := value_low h hn y (by omega)
    have h3 := hn.le (show before x ks ≤ before y ks - 1 by omega) (by omega)
    have h4 := value_bounds h x
    have h5 := value_bounds h y
    omega

theorem hk_nofall {l : List Seg} (h : GoodHole l) : NoFall (heightKnots l l.length) := by
  intro i hi
  rw [hk_len] at hi
  rw [hk_get _ _ _ (by omega), hk_get _ _ _ (by omega)]
  show riseUp l i ≤ riseUp l (i + 1)
  exact riseUp_mono l h.fair i (i + 1) (by omega) (by omega)
theorem height_mono {l : List Seg} (h : GoodHole l) {x y : Int} (hxy : x ≤ y) : (At (heightOf l) x).Lo ≤ (At (heightOf l) y).Lo ∧ (At (heightOf l) x).Hi ≤ (At (heightOf l) y).Hi := by
  have hr := height_right h
  rw [At, if_pos hr, At, if_pos hr, heightOf_good h]
  exact value_mono (hk_good h) (hk_nofall h) hxy

/-! ### addR -/
theorem addR_le {p : Rng} {w : Int} {h : Rng} (hp : p.Lo ≤ p.Hi) : (addR p w h).Lo ≤ (addR p w h).Hi := by
  simp only [addR]; omega
theorem addR_shift (p : Rng) (w d : Int) (h : Rng) : addR ⟨p.Lo + d, p.Hi + d⟩ w h = ⟨(addR p w h).Lo + d, (addR p w h).Hi + d⟩ := by
  simp only [addR]; congr 1 <;> omega
theorem mulw (w h : Int) (hw0 : -40000 ≤ w) (hw1 : w ≤ 40000) (h0 : 0 ≤ h) (h1 : h ≤ 1048576) : -41943040000 ≤ w * h ∧ w * h ≤ 41943040000 := by
  have a1 : w * h ≤ 40000 * h := Int.mul_le_mul_of_nonneg_right hw1 h0
  have a2 : -40000 * h ≤ w * h := Int.mul_le_mul_of_nonneg_right hw0 h0
  rw [Int.neg_mul] at a2
  omega
theorem addR_bound {p : Rng} {w : Int} {h : Rng} {M : Int} (hw0 : -40000 ≤ w) (hw1 : w ≤ 40000) (h0 : 0 ≤ h.Lo) (h1 : h.Lo ≤ h.Hi) (h2 : h.Hi ≤ 1048576) (p0 : -M ≤ p.Lo) (p1 : p.Hi ≤ M) (p2 : p.Lo ≤ p.Hi) :
    -(M + 41943040000) ≤ (addR p w h).Lo ∧ (addR p w h).Hi ≤ M + 41943040000 ∧ (addR p w h).Lo ≤ (addR p w h).Hi := by
  have a := mulw w h.Lo hw0 hw1 h0 (by omega)
  have b := mulw w h.Hi hw0 hw1 (by omega) h2
  simp only [addR]
  omega

theorem slg_weight {h : List Seg} {l : List Slug} (g : GoodCol h l) (i : Nat) : 0 ≤ (slg l i).Weight ∧ (slg l i).Weight ≤ 40000 := by
  rcases Nat.lt_or_ge i l.length with hi | hi
  · exact g.w0 i hi
  · have : slg l i = ⟨0, 0⟩ := by simp [slg, hi]
    rw [this]; simp
theorem pressUp_bound {h : List Seg} {l : List Slug} (g : GoodCol h l) (top u : Int) (ht0 : 0 ≤ top) (ht1 : top ≤ 68719476736) (k : Nat) :
    -(68719476736 + 41943040000 * ((k : Int) + 1)) ≤ (pressUp h l top u k).2.Lo ∧ (pressUp h l top u k).2.Hi ≤ 68719476736 + 41943040000 * ((k : Int) + 1) ∧ (pressUp h l top u k).2.Lo ≤ (pressUp h l top u k).2.Hi ∧ (pressUp h l top u k).1 ≤ l.length - 1 := by
  induction k with
  | zero =>
    have hr := g.hole.ups h.length (Nat.le_refl _)
    have hw := slg_weight g (l.length - 1)
    have := addR_bound (p := ⟨top, top⟩) (w := (slg l (l.length - 1)).Weight) (h := ⟨riseUp h h.length, riseUp h h.length⟩) (M := 68719476736) (by omega) (by omega) (by show 0 ≤ riseUp h h.length; omega) (Int.le_refl _) (by show riseUp h h.length ≤ 1048576; omega) (by show -68719476736 ≤ top; omega) (by show top ≤ 68719476736; omega) (Int.le_refl _)
    simp only [pressUp]
    omega
  | succ k ih =>
    rw [pressUp]
    split
    · have hw := slg_weight g k
      have hw2 := slg_weight g (k + 1)
      have ha := height_at g.hole (heldUp l (k + 1))
      have := addR_bound (p := (pressUp h l top u k).2) (w := (slg l k).Weight - (slg l (k + 1)).Weight) (h := At (heightOf h) (heldUp l (k + 1))) (M := 68719476736 + 41943040000 * ((k : Int) + 1)) (by omega) (by omega) ha.1 ha.2.1 ha.2.2 ih.1 ih.2.1 ih.2.2.1
      simp only
      omega
    · omega

theorem pressUp_shift (h : List Seg) (l : List Slug) (top d u : Int) (k : Nat) : pressUp h l (top + d) u k = ((pressUp h l top u k).1, ⟨(pressUp h l top u k).2.Lo + d, (pressUp h l top u k).2.Hi + d⟩) := by
  induction k with
  | zero =>
    simp only [pressUp]
    rw [← addR_shift]
  | succ k ih =>
    simp only [pressUp]
    rw [ih]
    split
    · simp only
      rw [addR_shift]
    · rfl
theorem pressAt_shift (h : List Seg) (l : List Slug) (top d u : Int) : pressAt h l (top + d) u = ⟨(pressAt h l top u).Lo + d, (pressAt h l top u).Hi + d⟩ := by
  unfold pressAt
  rw [pressUp_shift, addR_shift]
theorem pressAt_le {h : List Seg} {l : List Slug} (g : GoodCol h l) (top u : Int) (ht0 : 0 ≤ top) (ht1 : top ≤ 68719476736) : (pressAt h l top u).Lo ≤ (pressAt h l top u).Hi :=
  addR_le (pressUp_bound g top u ht0 ht1 _).2.2.1

/-- two places in one slug -/
theorem pressUp_same (h : List Seg) (l : List Slug) (top u v : Int) (k : Nat) (hs : ∀ i, i ≤ k → (u < heldUp l i ↔ v < heldUp l i)) : pressUp h l top u k = pressUp h l top v k := by
  induction k with
  | zero => rfl
  | succ k ih =>
    simp only [pressUp]
    rw [ih fun i hi => hs i (by omega)]
    by_cases hu : u < heldUp l (k + 1)
    · rw [if_pos hu, if_pos ((hs _ (Nat.le_refl _)).1 hu)]
    · rw [if_neg hu, if_neg (fun hv => hu ((hs _ (Nat.le_refl _)).2 hv))]
theorem addR_neg (p : Rng) (w : Int) (a b : Rng) (hw : 0 ≤ w) (ha : a.Lo ≤ a.Hi) (hb : b.Lo ≤ b.Hi) (h1 : a.Lo ≤ b.Lo) (h2 : a.Hi ≤ b.Hi) : (addR p (-w) b).Lo ≤ (addR p (-w) a).Lo ∧ (addR p (-w) b).Hi ≤ (addR p (-w) a).Hi := by
  have m := fun x y (hxy : x ≤ y) => Int.mul_le_mul_of_nonneg_left (a := x) (b := y) hxy hw
  have m1 := m _ _ ha
  have m2 := m _ _ hb
  have m3 := m _ _ h1
  have m4 := m _ _ h2
  simp only [addR, Int.neg_mul]
  omega
theorem deeper {h : List Seg} {l : List Slug} (g : GoodCol h l) (top u low : Int) {i : Nat} (hi : i < l.length) (h1 : heldUp l i ≤ low) (h2 : low ≤ u) (h3 : u < heldUp l (i + 1)) :
    (pressAt h l top u).Lo ≤ (pressAt h l top low).Lo ∧ (pressAt h l top u).Hi ≤ (pressAt h l top low).Hi := by
  have hs : pressUp h l top u (l.length - 1) = pressUp h l top low (l.length - 1) := pressUp_same h l top u low _ fun k hk => by
    rcases Nat.lt_or_ge i k with hik | hik
    · have := (g.held (i + 1) k (by omega) (by omega)).2
      omega
    · have := (g.held k i hik (by omega)).2
      omega
  unfold pressAt
  rw [hs]
  have a := height_at g.hole low
  have b := height_at g.hole u
  have m := height_mono g.hole h2
  exact addR_neg _ _ _ _ (slg_weight g _).1 a.2.1 b.2.1 m.1 m.2

end Mpl

/- Walks of moonpoolkit: a hole made of numbers. -/
namespace Mpl
structure SegMade (s : Seg) : Prop where
  l0 : 1 ≤ s.Long
  l1 : s.Long ≤ 100000
  r0 : 0 ≤ s.Rise
  r1 : s.Rise ≤ s.Long
  a0 : 1 ≤ s.Area
  a1 : s.Area ≤ 1500
  g0 : 1 ≤ s.Gap
  g1 : s.Gap ≤ 200
theorem SegMade.good {s : Seg} (h : SegMade s) : GoodSeg s := ⟨h.l0, h.r0, h.r1, h.a0, by have := h.a1; omega, h.g0, h.g1⟩
/-- a hole made of numbers -/
structure Annular (h : List Seg) : Prop where
  pos : 0 < h.length
  few : h.length ≤ 5
  seg : ∀ s ∈ h, SegMade s
theorem sg_mem {h : List Seg} {i : Nat} (hi : i < h.length) : sg h i ∈ h := by simp [sg, hi]
theorem Annular.at {h : List Seg} (a : Annular h) {i : Nat} (hi : i < h.length) : SegMade (sg h i) := a.seg _ (sg_mem hi)
theorem long_le (f : Nat → Int) (M : Int) (n : Nat) (h : ∀ k, k < n → f k ≤ M) : sumFrom f 0 n ≤ n * M := by
  induction n with
  | zero => simp [sumFrom]
  | succ n ih =>
    rw [up_step]
    have := ih fun k hk => h k (by omega)
    have := h n (by omega)
    rw [show ((n + 1 : Nat) : Int) = (n : Int) + 1 by omega, Int.add_mul]
    omega
theorem Annular.good {h : List Seg} (a : Annular h) : GoodHole h := by
  refine ⟨a.pos, by have := a.few; omega, fun i hi => (a.at hi).good, ?_⟩
  have := long_le (longAt h) 100000 h.length fun k hk => (a.at hk).l1
  have := a.few
  show sumFrom (longAt h) 0 h.length ≤ _
  omega
theorem Annular.one_le {h : List Seg} (a : Annular h) : 1 ≤ sizeUp h h.length := by
  have := (a.good.ups h.length (Nat.le_refl _)).2.2.2.2.1
  have := a.pos
  omega
end Mpl
namespace Go.Proofs.Ytbbgbidpglhkfaa
open Go.RowKit Go.Shelf Mpl

theorem Segs.own {w : World} {base : Nat} {e : TypeId} {v : Value} {n : Nat} {l : List Seg} (h : w.ownsRow base e 4 v n (l.flatMap segC)) :
    ∃ A c, v = .slice A l.length c ∧ l.length ≤ c ∧ Segs w w.heap.size A l := by
  have hn : n = l.length := by have := h.1; rw [flatC_len segC 4 (fun _ => rfl)] at this; omega
  subst hn
  obtain ⟨A, c, rfl, hnc, hc⟩ := own_form h
  refine ⟨A, c, rfl, hnc, fun h0 => ?_⟩
  obtain ⟨g, rfl, _, hlt, hcell⟩ := hc h0
  refine ⟨g, 0, rfl, hlt, fun i hi => ?_⟩
  have ht : sg l i = l[i] := by simp [sg, hi]
  have hg := fun j hj => flat_get segC 4 (fun _ => rfl) l i j hi hj
  rw [ht]
  refine ⟨?_, ?_, ?_, ?_⟩
  · have := hcell (i * 4 + 0) _ ((hg 0 (by omega)).trans rfl); simpa using this
  · have := hcell (i * 4 + 1) _ ((hg 1 (by omega)).trans rfl); simpa using this
  · have := hcell (i * 4 + 2) _ ((hg 2 (by omega)).trans rfl); simpa using this
  · have := hcell (i * 4 + 3) _ ((hg 3 (by omega)).trans rfl); simpa using this
theorem info_Seg : (Try.prog.info? 37).map (fun i => (i.zero, i.size, i.bytes)) = some (some (.agg #[.int .i64 0, .int .i64 0, .int .i64 0, .int .i64 0]), 4, 32) := by kernel_rfl

def madeSeg (n : Int) : Seg := ⟨1 + n % 100000, n / 11 % (1 + n % 100000 + 1), 1 + n / 3 % 1500, 1 + n / 7 % 200⟩
theorem madeSeg_made (n : Int) (_h : 0 ≤ n) : SegMade (madeSeg n) := by
  unfold madeSeg
  refine ⟨?_, ?_, ?_, ?_, ?_, ?_, ?_, ?_⟩ <;> simp only <;> try omega
  have h1 := Int.emod_nonneg (n / 11) (show 1 + n % 100000 + 1 ≠ 0 by omega)
  exact h1
  have h2 := Int.emod_lt_of_pos (n / 11) (show 0 < 1 + n % 100000 + 1 by omega)
  omega

theorem load_one {w : World} {g t : Nat} {v : Value} (b : Box w g t #[v]) : (loadVar 24 ⟨g, 0, none⟩).run Try.prog w = .ok (.agg #[v]) w := by
  have q0 := b.cell 0
  simp only [List.getElem?_toArray, List.getElem?_cons_zero] at q0
  simp [go_sem, q0]

set_option maxHeartbeats 4000000 in
set_option maxRecDepth 100000 in
theorem kit_Annulus (l : List Int) (A : Option Addr) (c : Nat) (w : World) (hl : Ints w w.heap.size A l) (hin : IntsIn l) (hm : l.length ≤ maxLen) :
    Calls Try.prog 9 #[.slice A l.length c] w fun e w' => (∃ A' c' h, e = .returned (.agg #[.slice A' h.length c']) ∧ w'.ownsRow w.heap.size 37 4 (.slice A' h.length c') h.length (h.flatMap segC) ∧ Annular h) ∧ Below w.heap.size w w' := by
  have HP := Lib.hid (fun W (hW : Below w.heap.size w W) k (hk : k ≤ 1000) => kit_pick l A c k W (hl.up hW hW.size) hin hk hm)
  have hb := Lib.hid (kitPick_bounds l)
  clear hl hin
  unfold maxLen at hm
  generalize kitPick l = f at *
  generalize l.length = n at *
  obtain ⟨i0, hi0, hz0, hz1, hz2⟩ := info_parts info_Seg
  obtain ⟨w0, hw0⟩ : ∃ w0, ((w.alloc (.cells #[.slice none 0 0] 24)).alloc (.cells #[.slice none 0 0] 24)) = w0 := ⟨_, rfl⟩
  have b0 : Box w0 w.heap.size 24 #[.slice none 0 0] := by rw [← hw0]; exact (Box.new w _ _ rfl).alloc _
  have b1 : Box w0 (w.heap.size + 1) 24 #[.slice none 0 0] := by rw [← hw0]; exact Box.new _ _ _ (by simp)
  have hB0 : Below w.heap.size w w0 := by rw [← hw0]; exact (by repeat (first | exact Below.refl _ _ | assumption | refine Below.setCell ?_ (by first | (simp; done) | (simp; omega)) _ | refine belowDrewN ?_ _ | refine Below.drew ?_ | refine Below.alloc ?_ (by first | (simp; done) | (simp; omega)) _))
  have hs0 : w0.heap.size = w.heap.size + 1 + 1 := by rw [← hw0]; simp
  have HS0 := Lib.hid hs0
  have HW0 := Lib.hid hw0
  clear hw0 hs0
  obtain ⟨mn, hmn⟩ : ∃ c : Nat, c = min n 5 := ⟨_, rfl⟩
  obtain ⟨cnt, hcnt⟩ : ∃ c : Nat, c = max 1 mn := ⟨_, rfl⟩
  have HE1 := Lib.hid (show (if (5 : Int) < (n : Int) then (5 : Int) else (n : Int)) = (mn : Int) by split <;> omega)
  have HE2 := Lib.hid (show (if (1 : Int) < (mn : Int) then (mn : Int) else (1 : Int)) = (cnt : Int) by split <;> omega)
  have hc1 : 1 ≤ cnt := by omega
  have hc3 : cnt ≤ 5 := by omega
  clear hcnt hmn
  go_enter Try.func9, Try.ntmps9
  go_wp2_with fail
  rw [HW0.out]
  go_loopw [4] (fun s4 wr => ∃ (k : Nat) (ks : List Seg) (v : Value), k ≤ cnt ∧ s4 = .int .i64 k ∧ Hid (ks.length = k ∧ ∀ s ∈ ks, SegMade s) ∧ Hid (wr.ownsRow w0.heap.size 37 4 v k (ks.flatMap segC)) ∧ Hid (Box wr (w.heap.size + 1) 24 #[v] ∧ Box wr w.heap.size 24 #[.slice none 0 0]) ∧ Hid (Below w.heap.size w wr) ∧ Hid (w0.heap.size ≤ wr.heap.size)) (fun s4 _ => 6 - (intOf s4).toNat)
  case atStart => exact ⟨0, [], .slice none 0 0, Nat.zero_le _, rfl, ⟨rfl, fun s hs => absurd hs (by simp)⟩, World.ownsRow_nil _ _ _ _, ⟨b1, b0⟩, hB0, Nat.le_refl _⟩
  case round =>
    obtain ⟨k, ks, v, hk, rfl, hks, hown, hbx, BW, hsz⟩ := hrel
    have e1 := HE1.out
    have e2 := HE2.out
    by_cases hlt : k < cnt
    · obtain ⟨r1, r2⟩ := hb.out k
      have g0 := hbx.out.1.cell 0
      have g1 := hbx.out.1.frozen 0
      simp only [List.getElem?_toArray, List.getElem?_cons_zero] at g0
      have hblt := hbx.out.1.lt
      go_wp2_with fail
      refine (HP.out wr BW.out k (by omega)).mono ?_
      rintro e w' ⟨rfl, rfl⟩
      generalize f k = nn at *
      have y1 : IntKind.i64.wrap (nn.tmod 100000) = nn % 100000 := by rw [Int.tmod_eq_emod_of_nonneg r1]; exact IntWalk.i64_in _ (by omega)
      have hmade := madeSeg_made nn r1
      have d0 : 0 ≤ nn % 100000 := by omega
      have d1 : nn % 100000 < 100000 := by omega
      have hz9 : (1 + nn % 100000 + 1 == 0) = false := beq_eq_false_iff_ne.2 (by omega)
      have HMD := Lib.hid hmade
      have hv := Lib.hid (show segC (madeSeg nn) = [.int .i64 (1 + nn % 100000), .int .i64 (nn / 11 % (1 + nn % 100000 + 1)), .int .i64 (1 + nn / 3 % 1500), .int .i64 (1 + nn / 7 % 200)] from rfl)
      go_wp2_with (at_builtin; refine wpList_append_own _ rfl _ _ 22 rfl w0.heap.size 37 i0 (.agg #[.int .i64 0, .int .i64 0, .int .i64 0, .int .i64 0]) 4 32 Try.underlying22 hi0 hz0 hz1 hz2 rfl (by decide) v k (ks.flatMap segC) rfl ((hown.out.alloc _).alloc _) ⟨wr.heap.size + 1, 0, none⟩ 1 1 (segC (madeSeg nn)) rfl rfl ?_ ?_ ?_ ?_ ?_ ?_)
      · rw [hv.out]
        have := cells_new (wr.alloc (.cells #[.int .i64 (1 + nn % 100000), .int .i64 (nn / 11 % (1 + nn % 100000 + 1)), .int .i64 (1 + nn / 3 % 1500), .int .i64 (1 + nn / 7 % 200)] 37)) [.int .i64 (1 + nn % 100000), .int .i64 (nn / 11 % (1 + nn % 100000 + 1)), .int .i64 (1 + nn / 3 % 1500), .int .i64 (1 + nn / 7 % 200)] 37
        simpa using this
      · simp [segC, Value.oneCell']
      · unfold maxLen; omega
      · omega
      · have := hsz.out; simp; omega
      intro v' w1 hown1 hg1 _
      have hB1 := Lib.hid (below_grown (((Below.refl w0.heap.size wr).alloc hsz.out _).alloc (by have := hsz.out; simp; omega) _) ((hown.out.alloc _).alloc _) hg1 (by have := hsz.out; simp; omega))
      obtain ⟨A2, c2, rfl, _, _⟩ := own_form hown1
      have HO1 := Lib.hid hown1
      clear hown1 hg1 g0 g1
      have c1 := hbx.out.1.below hB1.out (by rw [HS0.out]; omega)
      have c0 := hbx.out.2.below hB1.out (by rw [HS0.out]; omega)
      have BW1 := BW.out.trans (hB1.out.mono hB0.size)
      have HC1 := Lib.hid c1
      have HC0 := Lib.hid c0
      have g0 := c1.cell 0
      have g1 := c1.frozen 0
      simp only [List.getElem?_toArray, List.getElem?_cons_zero] at g0
      clear c1 c0
      go_wp2_with fail
      go_roundw
      case rel =>
        refine ⟨k + 1, ks ++ [madeSeg nn], .slice A2 (k + 1) c2, hlt, by go_num, ⟨by rw [List.length_append, hks.out.1]; rfl, fun s hs => ?_⟩, ?_, ⟨?_, ?_⟩, ?_, ?_⟩
        · rcases List.mem_append.1 hs with hs | hs
          · exact hks.out.2 s hs
          · rw [List.mem_singleton.1 hs]; exact HMD.out
        · have := own_far (p := ⟨w.heap.size + 1, 0, none⟩) HO1.out (by rw [HS0.out]; simp) (.slice A2 (k + 1) c2)
          unfold Hid
          rw [List.flatMap_append]
          simpa using this
        · have := HC1.out.set_ 0 (.slice A2 (k + 1) c2)
          simpa using this
        · exact HC0.out.far (by simp) _
        · exact BW1.setCell (p := ⟨w.heap.size + 1, 0, none⟩) (by simp) _
        · have h1 := hB1.out.size
          have h2 := hsz.out
          simp [Hid]
          omega
      case measure => simp [intOf]; omega
    · obtain rfl : k = cnt := by omega
      have hkn := own_far (p := ⟨w.heap.size, 0, none⟩) hown.out (by rw [HS0.out]; simp; omega) v
      rw [← hks.out.1] at hkn
      obtain ⟨A', c', rfl, _, _⟩ := own_form hkn
      have HKN := Lib.hid hkn
      clear hkn
      have g0 := hbx.out.1.cell 0
      have g2 := hbx.out.2.cell 0
      have g3 := hbx.out.2.frozen 0
      simp only [List.getElem?_toArray, List.getElem?_cons_zero] at g0 g2
      go_wp2_with fail
      have e0 := hbx.out.2.set_ 0 (.slice A' ks.length c')
      refine bodyPost_ret (results_cell1 rfl _ _ _ w.heap.size (.agg #[.slice A' ks.length c']) rfl (load_one (t := 24) (by simpa using e0))) rfl ?_
      refine ⟨⟨A', c', ks, rfl, ?_, ⟨by rw [hks.out.1]; omega, by rw [hks.out.1]; omega, hks.out.2⟩⟩, BW.out.setCell (p := ⟨w.heap.size, 0, none⟩) (Nat.le_refl _) _⟩
      exact own_le HKN.out (by rw [HS0.out]; omega)

end Go.Proofs.Ytbbgbidpglhkfaa

/- Walks of the package fluid: the height line of a hole, which may be not valid; the rise. -/
namespace Go.Proofs.Ytbbgbidpglhkfaa
open Go.RowKit Go.Shelf Mpl

theorem load_line1 {w : World} {g t : Nat} {v : Value} (b : Box w g t #[v]) : (loadVar 46 ⟨g, 0, none⟩).run Try.prog w = .ok (.agg #[v]) w := load_line b

set_option maxHeartbeats 1000000 in
theorem fluid_Height (v0 : Value) (l : List Seg) (w : World) (hv : HoleV w w.heap.size v0 l) (hin : SegsIn l) (hm : l.length ≤ maxLen) :
    Calls Try.prog 27 #[v0] w fun e w' => (∃ v, e = .returned v ∧ LineV w' w'.heap.size v (heightOf l)) ∧ Below w.heap.size w w' := by
  have hvv := hv
  obtain ⟨A, c, rfl, hS⟩ := hv
  by_cases h0 : checkHole l = 0
  · have hg := (checkHole_iff l).1 h0
    refine (height_walk l A c l.length w rfl hS hg (fun W hW => ?_)).mono ?_
    · have := fluid_CheckHole _ l W (hvv.up hW hW.size) hin hm
      rwa [h0] at this
    · rintro e w' ⟨⟨A', c', rfl, hown⟩, hb⟩
      refine ⟨⟨_, rfl, A', c', ?_, ?_⟩, hb⟩
      · rw [heightOf_good hg]
      · rw [heightOf_good hg]; exact Knots.own_slice hown
  · have hh : Hid (heightOf l = []) := by simp [Hid, heightOf, h0]
    have hB := (((Below.refl w.heap.size w).alloc (Nat.le_refl _) (.cells #[.slice A l.length c] 24)).alloc (by simp) (.cells #[.slice none 0 0] 46))
    have HC := Lib.hid (fluid_CheckHole _ l _ (hvv.up hB hB.size) hin hm)
    have br : Box (((w.alloc (.cells #[.slice A l.length c] 24)).alloc (.cells #[.slice none 0 0] 46))) (w.heap.size + 1) 46 #[.slice none 0 0] := Box.new _ _ _ (by simp)
    have BR := Lib.hid br
    have HB := Lib.hid hB
    have hz : (checkHole l != 0) = true := by simpa using h0
    clear h0 hvv hin hS br hB
    generalize checkHole l = ch at *
    generalize l.length = n at *
    go_enter Try.func27, Try.ntmps27
    go_wp2_with fail
    refine HC.out.mono ?_
    rintro e w1 ⟨rfl, hb1⟩
    have b1 := BR.out.under hb1
    have q0 := b1.cell 0
    have q1 := b1.frozen 0
    simp only [List.getElem?_toArray, List.getElem?_cons_zero] at q0
    have B1 := Lib.hid b1
    have HB1 := Lib.hid (HB.out.trans (hb1.mono HB.out.size))
    clear b1 hb1
    go_wp2_with fail
    refine bodyPost_ret (results_cell1 rfl _ _ _ (w.heap.size + 1) (.agg #[.slice none 0 0]) rfl (load_line (t := 46) (by simpa using B1.out.set_ 0 (.slice none 0 0)))) rfl ⟨⟨_, rfl, none, 0, ?_, ?_⟩, ?_⟩
    · rw [hh.out]; rfl
    · rw [hh.out]; exact fun h => absurd h (by simp)
    · exact HB1.out.setCell (p := ⟨w.heap.size + 1, 0, none⟩) (by simp) _

theorem hole_load {w : World} {g : Nat} {v : Value} (h : Box w g 24 #[v]) : w.cell? ⟨g, 0, none⟩ = some v := h.cell 0

end Go.Proofs.Ytbbgbidpglhkfaa

/- Walks of the package fluid: whether a place is in a hole, and in which segment. -/
namespace Mpl
theorem passed_stop (l : List Seg) (u : Int) (k m : Nat) (h : u < sizeUp l k) : passed l u k m = k := by
  cases m with
  | zero => rfl
  | succ m => rw [passed, if_pos h]
theorem passed_go (l : List Seg) (u : Int) (k m : Nat) (h : ¬ u < sizeUp l k) : passed l u k (m + 1) = passed l u (k + 1) m := by rw [passed, if_neg h]
end Mpl
namespace Go.Proofs.Ytbbgbidpglhkfaa
open Go.RowKit Go.Shelf Mpl
attribute [local go_sem] Oper.semAt_some

end Go.Proofs.Ytbbgbidpglhkfaa

/- Walks of the reference of layer 3: holes. -/
namespace Mpl
/-- the sum of lengths, each capped -/
def capUp (l : List Seg) (k : Nat) : Int := sumFrom (fun i => min (longAt l i) 1048577) 0 k
theorem capUp_step (l : List Seg) (k : Nat) : capUp l (k + 1) = capUp l k + min (sg l k).Long 1048577 := up_step _ k
theorem capUp_spec (l : List Seg) (k : Nat) (h : ∀ i, i < k → GoodSeg (sg l i)) : 0 ≤ capUp l k ∧ capUp l k ≤ k * 1048577 ∧ (capUp l k = longUp l k ∨ 1048577 ≤ capUp l k) ∧ capUp l k ≤ longUp l k := by
  induction k with
  | zero => simp [capUp, longUp, sumFrom]
  | succ k ih =>
    have i := ih fun i hi => h i (by omega)
    have g := (h k (by omega)).long
    rw [capUp_step, longUp_step]
    omega
end Mpl
namespace Go.Proofs.Ytbbgbidpglhkfaa
open Go.RowKit Go.Shelf Mpl

theorem hole_box {w : World} {g t : Nat} {v : Value} (h : Box w g t #[v]) : w.cell? ⟨g, 0, none⟩ = some v := h.cell 0

set_option maxHeartbeats 4000000 in
set_option maxRecDepth 100000 in
theorem refHole_loop (l : List Seg) (b off c : Nat) (w : World) (hb : b < w.heap.size) (hc : ∀ i, i < l.length → w.cell? ⟨b, off + i * 4, none⟩ = some (.int .i64 (sg l i).Long) ∧ w.cell? ⟨b, off + i * 4 + 1, none⟩ = some (.int .i64 (sg l i).Rise) ∧
      w.cell? ⟨b, off + i * 4 + 2, none⟩ = some (.int .i64 (sg l i).Area) ∧ w.cell? ⟨b, off + i * 4 + 3, none⟩ = some (.int .i64 (sg l i).Gap)) (h0 : 0 < l.length) (h16 : l.length ≤ 16) :
    Calls Try.prog 28 #[.agg #[.slice (some ⟨b, off, none⟩) l.length c]] w fun e w' => e = .returned (.int .i64 (checkHole l)) ∧ Below w.heap.size w w' := by
  have HC := Lib.hid hc
  have hany : (∃ i, i < l.length ∧ ¬ GoodSeg (sg l i)) → checkHole l = 2 := fun ⟨i, hi, hf⟩ => by
    unfold checkHole
    rw [if_neg (by omega), if_neg (by omega), if_pos]
    rw [List.any_eq_true]
    refine ⟨l[i], List.getElem_mem hi, ?_⟩
    have : sg l i = l[i] := by simp [sg, hi]
    rw [this, ← fairSeg_iff] at hf
    simpa using hf
  have hall : (∀ i, i < l.length → GoodSeg (sg l i)) → checkHole l = if 1048576 < capUp l l.length then 5 else 0 := fun hg => by
    have hs := capUp_spec l l.length hg
    unfold checkHole
    rw [if_neg (by omega), if_neg (by omega), if_neg (by rw [(any_seg l).2 hg]; simp)]
    by_cases h : 1048576 < longUp l l.length
    · rw [if_pos h, if_pos (by omega)]
    · rw [if_neg h, if_neg (by omega)]
  have HANY := Lib.hid hany
  have HALL := Lib.hid hall
  clear hc hany hall
  generalize hn : l.length = n at *
  have HN := Lib.hid hn
  clear hn
  generalize hres : checkHole l = res at *
  clear hres
  have hz : ((n : Int) == 0) = false := beq_eq_false_iff_ne.2 (by omega)
  have hz2 : decide ((16 : Int) < (n : Int)) = false := decide_eq_false (by omega)
  have hz2' : decide (16 < n) = false := decide_eq_false (by omega)
  have hB0 : Below w.heap.size w (w.alloc (.cells #[.slice (some ⟨b, off, none⟩) n c] 24)) := (by repeat (first | exact Below.refl _ _ | assumption | refine Below.setCell ?_ (by first | (simp; done) | (simp; omega)) _ | refine belowDrewN ?_ _ | refine Below.drew ?_ | refine Below.alloc ?_ (by first | (simp; done) | (simp; omega)) _))
  have b0 : Box (w.alloc (.cells #[.slice (some ⟨b, off, none⟩) n c] 24)) w.heap.size 24 #[.slice (some ⟨b, off, none⟩) n c] := Box.new _ _ _ rfl
  have HB0 := Lib.hid hB0
  have BX0 := Lib.hid b0
  clear hB0 b0
  go_enter Try.func28, Try.ntmps28
  go_wp2_with fail
  go_loopw [3, 4] (fun s3 s4 wr => ∃ (k : Nat), k ≤ n ∧ s4 = .int .i64 k ∧ s3 = .int .i64 (capUp l k) ∧ Hid (∀ i, i < k → GoodSeg (sg l i)) ∧ Hid (Box wr w.heap.size 24 #[.slice (some ⟨b, off, none⟩) n c]) ∧ Hid (Below w.heap.size w wr)) (fun _ s4 _ => n - (intOf s4).toNat)
  case atStart => exact ⟨0, Nat.zero_le _, rfl, rfl, fun i hi => absurd hi (by omega), BX0, HB0⟩
  case round =>
    obtain ⟨k, hk, rfl, rfl, hf, BX, BW⟩ := hrel
    have hsz := BW.out.size
    have q0 := hole_box BX.out
    by_cases hlt : k < n
    · obtain ⟨c0, c1, c2, c3⟩ := HC.out k hlt
      have t0 : decide (k < n) = true := decide_eq_true hlt
      have d0 := oldCell BW.out hb c0
      have d1 := oldCell BW.out hb c1
      have d2 := oldCell BW.out hb c2
      have d3 := oldCell BW.out hb c3
      have hbw : b < wr.heap.size := by omega
      clear c0 c1 c2 c3
      have hst := Lib.hid (capUp_step l k)
      have hcs := capUp_spec l k hf.out
      obtain ⟨s0, s1, _, _⟩ := hcs
      have hone := Lib.hid (show ¬ GoodSeg (sg l k) → res = 2 from fun h => HANY.out ⟨k, hlt, h⟩)
      have hx : Hid (GoodSeg (sg l k) → (∀ i, i < k + 1 → GoodSeg (sg l i))) := fun h i hi => by
        by_cases e : i = k
        · rw [e]; exact h
        · exact hf.out i (by omega)
      generalize hSk : capUp l k = S at *
      generalize hS1 : capUp l (k + 1) = S1 at *
      have HS1 := Lib.hid hS1
      clear hSk hS1
      generalize sg l k = s at *
      have BA := Lib.hid (BW.out.alloc hsz (.cells #[.int .i64 s.Long, .int .i64 s.Rise, .int .i64 s.Area, .int .i64 s.Gap] 37))
      by_cases g1 : s.Long < 1
      · have e1 : decide (s.Long < 1) = true := decide_eq_true g1
        have hr := Lib.hid (hone.out fun h => by have := h.long; omega)
        go_wp2_with fail
        go_ret
        exact ⟨ret_int hr.out.symm, BA.out⟩
      have e1 : decide (s.Long < 1) = false := decide_eq_false g1
      by_cases g2 : s.Rise < 0
      · have e2 : decide (s.Rise < 0) = true := decide_eq_true g2
        have hr := Lib.hid (hone.out fun h => by have := h.rise0; omega)
        go_wp2_with fail
        go_ret
        exact ⟨ret_int hr.out.symm, BA.out⟩
      have e2 : decide (s.Rise < 0) = false := decide_eq_false g2
      by_cases g3 : s.Long < s.Rise
      · have e3 : decide (s.Long < s.Rise) = true := decide_eq_true g3
        have hr := Lib.hid (hone.out fun h => by have := h.rise1; omega)
        go_wp2_with fail
        go_ret
        exact ⟨ret_int hr.out.symm, BA.out⟩
      have e3 : decide (s.Long < s.Rise) = false := decide_eq_false g3
      by_cases g4 : s.Area < 1
      · have e4 : decide (s.Area < 1) = true := decide_eq_true g4
        have hr := Lib.hid (hone.out fun h => by have := h.area0; omega)
        go_wp2_with fail
        go_ret
        exact ⟨ret_int hr.out.symm, BA.out⟩
      have e4 : decide (s.Area < 1) = false := decide_eq_false g4
      by_cases g5 : 5000 < s.Area
      · have e5 : decide (5000 < s.Area) = true := decide_eq_true g5
        have hr := Lib.hid (hone.out fun h => by have := h.area1; omega)
        go_wp2_with fail
        go_ret
        exact ⟨ret_int hr.out.symm, BA.out⟩
      have e5 : decide (5000 < s.Area) = false := decide_eq_false g5
      by_cases g6 : s.Gap < 1
      · have e6 : decide (s.Gap < 1) = true := decide_eq_true g6
        have hr := Lib.hid (hone.out fun h => by have := h.gap0; omega)
        go_wp2_with fail
        go_ret
        exact ⟨ret_int hr.out.symm, BA.out⟩
      have e6 : decide (s.Gap < 1) = false := decide_eq_false g6
      by_cases g7 : 200 < s.Gap
      · have e7 : decide (200 < s.Gap) = true := decide_eq_true g7
        have hr := Lib.hid (hone.out fun h => by have := h.gap1; omega)
        go_wp2_with fail
        go_ret
        exact ⟨ret_int hr.out.symm, BA.out⟩
      have e7 : decide (200 < s.Gap) = false := decide_eq_false g7
      have HX := Lib.hid (hx.out ⟨by omega, by omega, by omega, by omega, by omega, by omega, by omega⟩)
      obtain ⟨m, hm⟩ : ∃ m, (if (1048577 : Int) < s.Long then (1048577 : Int) else s.Long) = m := ⟨_, rfl⟩
      have hm1 : m = min s.Long 1048577 := by rw [← hm]; split <;> omega
      have HST := Lib.hid (show S1 = S + m by rw [hst.out, hm1])
      have hm0 : 0 ≤ m ∧ m ≤ 1048577 := by omega
      obtain ⟨m0, m1⟩ := hm0
      have BX1 := Lib.hid (BX.out.alloc (.cells #[.int .i64 s.Long, .int .i64 s.Rise, .int .i64 s.Area, .int .i64 s.Gap] 37))
      clear hone hx hst hm1
      go_wp2_with fail
      go_roundw
      case rel => exact ⟨k + 1, hlt, by go_num, by rw [HS1.out, HST.out], HX, BX1, BA⟩
      case measure => simp [intOf]; omega
    · obtain rfl : k = n := by omega
      have hr := Lib.hid (HALL.out hf.out)
      have t0 : decide (k < k) = false := decide_eq_false hlt
      by_cases hl : 1048576 < capUp l k
      · rw [if_pos hl] at hr
        have e1 : decide (1048576 < capUp l k) = true := decide_eq_true hl
        go_wp2_with fail
        go_ret
        exact ⟨ret_int hr.out.symm, BW.out⟩
      · rw [if_neg hl] at hr
        have e1 : decide (1048576 < capUp l k) = false := decide_eq_false hl
        go_wp2_with fail
        go_ret
        exact ⟨ret_int hr.out.symm, BW.out⟩

set_option maxHeartbeats 1000000 in
theorem ref03_CheckHole (v0 : Value) (l : List Seg) (w : World) (hv : HoleV w w.heap.size v0 l) :
    Calls Try.prog 28 #[v0] w fun e w' => e = .returned (.int .i64 (checkHole l)) ∧ Below w.heap.size w w' := by
  obtain ⟨A, c, rfl, hk⟩ := hv
  by_cases h0 : l.length = 0
  · have hs : Hid (checkHole l = 6) := by simp [checkHole, h0, Hid]
    rw [h0]
    have hz : (((0 : Nat) : Int) == 0) = true := by simp
    clear h0 hk
    go_enter Try.func28, Try.ntmps28
    go_wp2_with fail
    go_ret
    exact ⟨ret_int hs.out.symm, (by repeat (first | exact Below.refl _ _ | assumption | refine Below.setCell ?_ (by first | (simp; done) | (simp; omega)) _ | refine belowDrewN ?_ _ | refine Below.drew ?_ | refine Below.alloc ?_ (by first | (simp; done) | (simp; omega)) _))⟩
  · by_cases h16 : 16 < l.length
    · have hs : Hid (checkHole l = 8) := by simp [checkHole, h0, h16, Hid]
      clear hk
      generalize l.length = n at *
      have hz : ((n : Int) == 0) = false := beq_eq_false_iff_ne.2 (by omega)
      have hz2 : decide ((16 : Int) < (n : Int)) = true := decide_eq_true (by omega)
      go_enter Try.func28, Try.ntmps28
      go_wp2_with fail
      go_ret
      exact ⟨ret_int hs.out.symm, (by repeat (first | exact Below.refl _ _ | assumption | refine Below.setCell ?_ (by first | (simp; done) | (simp; omega)) _ | refine belowDrewN ?_ _ | refine Below.drew ?_ | refine Below.alloc ?_ (by first | (simp; done) | (simp; omega)) _))⟩
    · obtain ⟨b, off, rfl, hb, hc⟩ := hk (by omega)
      exact refHole_loop l b off c w hb hc (by omega) (by omega)

set_option maxHeartbeats 4000000 in
set_option maxRecDepth 100000 in
theorem ref03_Volume (v0 : Value) (l : List Seg) (w : World) (hv : HoleV w w.heap.size v0 l) :
    Calls Try.prog 29 #[v0] w fun e w' => e = .returned (.int .i64 (volumeOf l)) ∧ Below w.heap.size w w' := by
  have hvv := hv
  obtain ⟨A, c, rfl, hS⟩ := hv
  have HA := hvv.alloc (.cells #[.slice A l.length c] 24)
  have HC := Lib.hid (ref03_CheckHole _ l _ HA)
  have hba : Below w.heap.size w (w.alloc (.cells #[.slice A l.length c] 24)) := (Below.refl _ _).alloc (Nat.le_refl _) _
  have b0 : Box (w.alloc (.cells #[.slice A l.length c] 24)) w.heap.size 24 #[.slice A l.length c] := Box.new _ _ _ rfl
  have HB := Lib.hid b0
  have HBA := Lib.hid hba
  have hd : Hid (volumeOf l = if checkHole l = 0 then sizeUp l l.length else 0) := rfl
  have hi := Lib.hid (checkHole_iff l)
  clear hvv HA hba b0
  by_cases h0 : checkHole l = 0
  · have hg := hi.out.1 h0
    have HG := Lib.hid hg
    obtain ⟨b, off, rfl, hb, hc⟩ := hS hg.pos
    have HCC := Lib.hid hc
    have hfew := hg.few
    rw [h0] at HC
    rw [if_pos h0] at hd
    clear h0 hS hc hg hi
    generalize hn : l.length = n at *
    have HN := Lib.hid hn
    clear hn
    generalize volumeOf l = res at *
    go_enter Try.func29, Try.ntmps29
    go_wp2_with fail
    refine HC.out.mono ?_
    rintro e w1 ⟨rfl, hb1⟩
    have BX1 := Lib.hid (HB.out.under hb1)
    have HB1 := Lib.hid (HBA.out.trans (hb1.mono HBA.out.size))
    clear hb1
    go_wp2_with fail
    go_loopw [3, 4] (fun s3 s4 wr => ∃ (k : Nat), k ≤ n ∧ s4 = .int .i64 k ∧ s3 = .int .i64 (sizeUp l k) ∧ Hid (Box wr w.heap.size 24 #[.slice (some ⟨b, off, none⟩) n c]) ∧ Hid (Below w.heap.size w wr)) (fun _ s4 _ => n - (intOf s4).toNat)
    case atStart => exact ⟨0, Nat.zero_le _, rfl, rfl, BX1, HB1⟩
    case round =>
      obtain ⟨k, hk, rfl, rfl, BX, BW⟩ := hrel
      have hsz := BW.out.size
      have q0 := hole_box BX.out
      by_cases hlt : k < n
      · obtain ⟨c0, c1, c2, c3⟩ := HCC.out k hlt
        have t0 : decide (k < n) = true := decide_eq_true hlt
        have d0 := oldCell BW.out hb c0
        have d2 := oldCell BW.out hb c2
        have hbw : b < wr.heap.size := by omega
        have hst := Lib.hid (sizeUp_step l k)
        have hu := HG.out.ups k (by rw [HN.out]; omega)
        obtain ⟨_, _, _, _, u5, u6⟩ := hu
        have hs2 := HG.out.seg (k := k) (by rw [HN.out]; exact hlt)
        obtain ⟨_, z1, z2⟩ := hs2
        have hse : Hid (segSize (sg l k) = (sg l k).Long * (sg l k).Area) := rfl
        clear c0 c1 c2 c3
        generalize hSk : sizeUp l k = S at *
        generalize hS1 : sizeUp l (k + 1) = S1 at *
        have HS1 := Lib.hid hS1
        clear hSk hS1
        generalize segSize (sg l k) = z at *
        generalize sg l k = s at *
        have hw1 : IntKind.i64.wrap (s.Long * s.Area) = z := by rw [← hse.out]; exact IntWalk.i64_in _ (by omega)
        have hw2 : IntKind.i64.wrap (S + z) = S + z := IntWalk.i64_in _ (by omega)
        have b1 : (k : Int) < (n : Int) := by omega
        have b2 : (0 : Int) ≤ (k : Int) := by omega
        go_wp2_with fail
        go_quiet (fail)
        go_wp2_with fail
        go_roundw
        case rel => exact ⟨k + 1, hlt, by go_num, by rw [HS1.out, hst.out], BX.out.drewN _, belowDrewN BW.out _⟩
        case measure => simp [intOf]; omega
      · obtain rfl : k = n := by omega
        have t0 : decide (k < k) = false := decide_eq_false hlt
        go_wp2_with fail
        go_ret
        exact ⟨ret_int hd.out.symm, BW.out⟩
  · rw [if_neg h0] at hd
    have hz : (checkHole l != 0) = true := by simpa using h0
    clear h0 hS
    generalize checkHole l = ch at *
    generalize l.length = n at *
    go_enter Try.func29, Try.ntmps29
    go_wp2_with fail
    refine HC.out.mono ?_
    rintro e w1 ⟨rfl, hb1⟩
    go_wp2_with fail
    go_ret
    exact ⟨ret_int hd.out.symm, HBA.out.trans (hb1.mono HBA.out.size)⟩

end Go.Proofs.Ytbbgbidpglhkfaa

/- Walks of the reference of layer 3: the height line of a hole; in which segment a place is. -/
namespace Mpl
theorem passed_le (l : List Seg) (u : Int) (k m : Nat) : k ≤ passed l u k m ∧ passed l u k m ≤ k + m := by
  induction m generalizing k with
  | zero => simp [passed]
  | succ m ih =>
    rw [passed]
    split
    · omega
    · have := ih (k + 1); omega
theorem volume_good {l : List Seg} (h : GoodHole l) : volumeOf l = sizeUp l l.length := by unfold volumeOf; rw [if_pos ((checkHole_iff l).2 h)]
end Mpl
namespace Go.Proofs.Ytbbgbidpglhkfaa
open Go.RowKit Go.Shelf Mpl

theorem ref_hole_bad {l : List Seg} {u : Int} (h : inHole l u = false) : whereOf l u = -1 := by unfold whereOf; rw [h]; rfl

end Go.Proofs.Ytbbgbidpglhkfaa

/- Walks of the reference of layer 3: the height line of a hole. -/
namespace Go.Proofs.Ytbbgbidpglhkfaa
open Go.RowKit Go.Shelf Mpl


theorem own_two {w : World} {base : Nat} {e t : TypeId} {v : Value} {n g : Nat} {xs : List Value} {a b : Value} (h : w.ownsRow base e 2 v n xs) (hb : Box w g t #[a, b]) (hn : 2 ≤ n) : v.ownBlock ≠ some g := by
  rcases h.2 with ⟨h1, h2⟩ | ⟨g', cap, cur, h1, _, hh, h3, _, h4, _⟩
  · omega
  · rw [h1]
    intro he
    have : g' = g := by simpa [Value.ownBlock] using he
    subst this
    unfold Box at hb
    rw [hh] at hb
    injection hb with hb
    injection hb with hb _ _
    rw [hb] at h4
    simp at h4
    omega

/-- behind one segment more -/
theorem refHeight_next {w W2 w7 : World} {M k g7 cap7 nn c : Nat} {A : Option Addr} {l : List Seg} {v : Value} {su ru : Int} (hM : w.heap.size + 1 < M) (hk2 : heightKnots l (k + 1) = heightKnots l k ++ [⟨su, ru⟩])
    (OWN : W2.ownsRow M 91 2 v (k + 1) ((heightKnots l k).flatMap knotC)) (NE : v.ownBlock ≠ some (M + 1 + 1)) (C1 : Box W2 (M + 1) 46 #[v]) (C2 : Box W2 (M + 1 + 1) 91 #[.int .i64 su, .int .i64 ru]) (CH : Box W2 w.heap.size 24 #[.slice A nn c]) (CR : Box W2 (w.heap.size + 1) 46 #[.slice none 0 0])
    (HB2 : Below w.heap.size w W2) {o : Obj} (hown7 : w7.ownsRow M 91 2 (.slice (some ⟨g7, 0, none⟩) (k + 1 + 1) cap7) (k + 1 + 1) ((heightKnots l k).flatMap knotC ++ knotC ⟨su, ru⟩)) (hg7 : (W2.alloc o).grownBy w7 v.ownBlock) :
    (w7.setCell ⟨M + 1, 0, none⟩ (.slice (some ⟨g7, 0, none⟩) (k + 1 + 1) cap7)).ownsRow M 91 2 (.slice (some ⟨g7, 0, none⟩) (k + 1 + 1) cap7) (k + 1 + 1) ((heightKnots l (k + 1)).flatMap knotC) ∧ (Value.slice (some ⟨g7, 0, none⟩) (k + 1 + 1) cap7).ownBlock ≠ some (M + 1 + 1) ∧
    (Box (w7.setCell ⟨M + 1, 0, none⟩ (.slice (some ⟨g7, 0, none⟩) (k + 1 + 1) cap7)) (M + 1) 46 #[.slice (some ⟨g7, 0, none⟩) (k + 1 + 1) cap7] ∧ Box (w7.setCell ⟨M + 1, 0, none⟩ (.slice (some ⟨g7, 0, none⟩) (k + 1 + 1) cap7)) (M + 1 + 1) 91 #[.int .i64 su, .int .i64 ru] ∧ Box (w7.setCell ⟨M + 1, 0, none⟩ (.slice (some ⟨g7, 0, none⟩) (k + 1 + 1) cap7)) w.heap.size 24 #[.slice A nn c] ∧ Box (w7.setCell ⟨M + 1, 0, none⟩ (.slice (some ⟨g7, 0, none⟩) (k + 1 + 1) cap7)) (w.heap.size + 1) 46 #[.slice none 0 0]) ∧
    Below w.heap.size w (w7.setCell ⟨M + 1, 0, none⟩ (.slice (some ⟨g7, 0, none⟩) (k + 1 + 1) cap7)) := by
  have hba : Below W2.heap.size W2 (W2.alloc o) := (Below.refl _ _).alloc (Nat.le_refl _) _
  have D1 := C1.under hba
  have D2 := C2.under hba
  have DR := CR.under hba
  have DH := CH.under hba
  have DO := own_under OWN hba
  have n1 := own_box DO D1 (by decide)
  have n3 := own_box DO DR (by decide)
  have n4 := own_box DO DH (by decide)
  have E1 := D1.grownRow hg7 n1
  have E2 := D2.grownRow hg7 NE
  have ER := DR.grownRow hg7 n3
  have EH := DH.grownRow hg7 n4
  have hBl : Below w.heap.size w w7 := HB2.trans ⟨hg7.os.trans hba.os, hg7.tape.trans hba.tape, hg7.output.trans hba.output, Nat.le_trans hba.size hg7.size, fun i hi => by
    have hs := HB2.size
    refine (hg7.block i (by have := hba.size; omega) fun he => ?_).trans (hba.block i (by omega))
    rcases DO.2 with ⟨h, _⟩ | ⟨g', cap, cur, h, hgg, _, _⟩
    · rw [h] at he; simp [Value.ownBlock] at he
    · rw [h] at he
      have : i = g' := by simpa [Value.ownBlock] using he
      omega⟩
  have hne7 : (Value.slice (some ⟨g7, 0, none⟩) (k + 1 + 1) cap7).ownBlock ≠ some (M + 1) := own_box hown7 E1 (by decide)
  refine ⟨?_, own_two hown7 E2 (by omega), ⟨by simpa using E1.set_ 0 (.slice (some ⟨g7, 0, none⟩) (k + 1 + 1) cap7), E2.far (by simp) _, EH.far (by simp; omega) _, ER.far (by simp; omega) _⟩, hBl.setCell (p := ⟨M + 1, 0, none⟩) (by simp; omega) _⟩
  have := own_set (p := ⟨M + 1, 0, none⟩) hown7 hne7 (.slice (some ⟨g7, 0, none⟩) (k + 1 + 1) cap7)
  rw [hk2, List.flatMap_append]
  simpa using this

set_option maxHeartbeats 4000000 in
set_option maxRecDepth 100000 in
theorem ref03_Height (v0 : Value) (l : List Seg) (w : World) (hv : HoleV w w.heap.size v0 l) :
    Calls Try.prog 31 #[v0] w fun e w' => (∃ v, e = .returned v ∧ LineV w' w'.heap.size v (heightOf l)) ∧ Below w.heap.size w w' := by
  have hvv := hv
  obtain ⟨A, c, rfl, hS⟩ := hv
  obtain ⟨w0, hw0⟩ : ∃ w0, (w.alloc (.cells #[.slice A l.length c] 24)).alloc (.cells #[.slice none 0 0] 46) = w0 := ⟨_, rfl⟩
  have hB0 : Below w.heap.size w w0 := by rw [← hw0]; exact (by repeat (first | exact Below.refl _ _ | assumption | refine Below.setCell ?_ (by first | (simp; done) | (simp; omega)) _ | refine belowDrewN ?_ _ | refine Below.drew ?_ | refine Below.alloc ?_ (by first | (simp; done) | (simp; omega)) _))
  have B0 := Lib.hid (show Box w0 w.heap.size 24 #[.slice A l.length c] by rw [← hw0]; exact (Box.new w _ _ rfl).alloc _)
  have B1 := Lib.hid (show Box w0 (w.heap.size + 1) 46 #[.slice none 0 0] by rw [← hw0]; exact Box.new _ _ _ (by simp))
  have HC := Lib.hid (ref03_CheckHole _ l w0 (hvv.below hB0))
  have HW0 := Lib.hid hw0
  have HB0 := Lib.hid hB0
  clear hw0 hB0 hvv
  by_cases h0 : checkHole l = 0
  case neg =>
    have hh : Hid (heightOf l = []) := by simp [Hid, heightOf, h0]
    have hz : (checkHole l != 0) = true := by simpa using h0
    clear h0 hS
    generalize checkHole l = ch at *
    generalize l.length = n at *
    have q0 := hole_box B0.out
    go_enter Try.func31, Try.ntmps31
    go_wp2_with fail
    rw [HW0.out]
    go_wp2_with fail
    refine HC.out.mono ?_
    rintro e w1 ⟨rfl, hb1⟩
    have b1 := B1.out.under hb1
    have q1 := b1.cell 0
    have f1 := b1.frozen 0
    simp only [List.getElem?_toArray, List.getElem?_cons_zero] at q1
    have BB := Lib.hid b1
    have HB1 := Lib.hid (HB0.out.trans (hb1.mono HB0.out.size))
    clear b1 hb1
    go_wp2_with fail
    refine bodyPost_ret (results_cell1 rfl _ _ _ (w.heap.size + 1) (.agg #[.slice none 0 0]) rfl (load_line (t := 46) (by simpa using BB.out.set_ 0 (.slice none 0 0)))) rfl ⟨⟨_, rfl, none, 0, ?_, ?_⟩, ?_⟩
    · rw [hh.out]; rfl
    · rw [hh.out]; exact fun h => absurd h (by simp)
    · exact HB1.out.setCell (p := ⟨w.heap.size + 1, 0, none⟩) (by simp) _
  have hg := (checkHole_iff l).1 h0
  have HG := Lib.hid hg
  have hh : Hid (heightOf l = heightKnots l l.length) := heightOf_good hg
  rw [h0] at HC
  obtain ⟨b, off, rfl, hb, hc⟩ := hS hg.pos
  have HCC := Lib.hid hc
  have hfew := hg.few
  clear hS hc hg h0
  have HSU := Lib.hid (fun k => hk_succ l k)
  have HLEN := Lib.hid (fun k => hk_len l k)
  have hk0 : Hid ((heightKnots l 0).flatMap knotC = [.int .i64 0, .int .i64 0]) := by simp [Hid, heightKnots, knotC, sizeUp, riseUp, sumFrom]
  generalize hn : l.length = n at *
  have HN := Lib.hid hn
  clear hn
  obtain ⟨i0, hi0, hz0, hz1, hz2⟩ := info_parts info_Knot
  have q0 := hole_box B0.out
  go_enter Try.func31, Try.ntmps31
  go_wp2_with fail
  rw [HW0.out]
  go_wp2_with fail
  refine HC.out.mono ?_
  rintro e w1 ⟨rfl, hb1⟩
  obtain ⟨w3, hw3⟩ : ∃ w3, ((w1.alloc (.cells #[.int .i64 0, .int .i64 0] 91)).alloc (.cells #[.slice (some ⟨w1.heap.size, 0, none⟩) 1 1] 46)).alloc (.cells #[.int .i64 0, .int .i64 0] 91) = w3 := ⟨_, rfl⟩
  have HW3 := Lib.hid hw3
  have hlt : w.heap.size + 1 < w1.heap.size := (B1.out.under hb1).lt
  have b1 := B1.out.under hb1
  have OW := Lib.hid (show w3.ownsRow w1.heap.size 91 2 (.slice (some ⟨w1.heap.size, 0, none⟩) 1 1) 1 [.int .i64 0, .int .i64 0] by rw [← hw3]; exact ((World.ownsRow_lit (base := w1.heap.size) (e := 91) (size := 2) w1 #[.int .i64 0, .int .i64 0] 1 (Nat.le_refl _) (by unfold maxLen; omega) rfl).alloc _).alloc _)
  have X1 := Lib.hid (show Box w3 (w1.heap.size + 1) 46 #[.slice (some ⟨w1.heap.size, 0, none⟩) 1 1] by rw [← hw3]; exact (Box.new _ _ _ (by simp)).alloc _)
  have X2 := Lib.hid (show Box w3 (w1.heap.size + 1 + 1) 91 #[.int .i64 0, .int .i64 0] by rw [← hw3]; exact Box.new _ _ _ (by simp))
  have X3 := Lib.hid (show Box w3 w.heap.size 24 #[.slice (some ⟨b, off, none⟩) n c] by rw [← hw3]; exact (((B0.out.under hb1).alloc _).alloc _).alloc _)
  have X4 := Lib.hid (show Box w3 (w.heap.size + 1) 46 #[.slice none 0 0] by rw [← hw3]; exact ((b1.alloc _).alloc _).alloc _)
  have hb3 : Below w1.heap.size w1 w3 := by rw [← hw3]; exact (((Below.refl _ _).alloc (Nat.le_refl _) _).alloc (by simp) _).alloc (by simp; omega) _
  have h01 := HB0.out.trans (hb1.mono HB0.out.size)
  have X5 := Lib.hid (h01.trans (hb3.mono h01.size))
  have X6 := Lib.hid (show w1.heap.size + 1 + 1 + 1 ≤ w3.heap.size by rw [← hw3]; simp)
  clear hw3 hb3 h01 b1 hb1 q0
  go_wp2_with fail
  rw [HW3.out]
  go_loopw [5] (fun s5 wr => ∃ (k : Nat) (v : Value), k ≤ n ∧ s5 = .int .i64 k ∧ Hid (wr.ownsRow w1.heap.size 91 2 v (k + 1) ((heightKnots l k).flatMap knotC)) ∧ Hid (v.ownBlock ≠ some (w1.heap.size + 1 + 1)) ∧ Hid (Box wr (w1.heap.size + 1) 46 #[v] ∧ Box wr (w1.heap.size + 1 + 1) 91 #[.int .i64 (sizeUp l k), .int .i64 (riseUp l k)] ∧ Box wr w.heap.size 24 #[.slice (some ⟨b, off, none⟩) n c] ∧ Box wr (w.heap.size + 1) 46 #[.slice none 0 0]) ∧ Hid (Below w.heap.size w wr) ∧ Hid (w1.heap.size + 1 + 1 + 1 ≤ wr.heap.size)) (fun s5 _ => n - (intOf s5).toNat)
  case atStart => exact ⟨0, .slice (some ⟨w1.heap.size, 0, none⟩) 1 1, Nat.zero_le _, rfl, (by unfold Hid; rw [hk0.out]; exact OW.out), (by unfold Hid; simp [Value.ownBlock]; omega), ⟨X1.out, X2.out, X3.out, X4.out⟩, X5, X6⟩
  case round =>
    obtain ⟨k, v, hk, rfl, hown, hne, hbx, BW, hsz⟩ := hrel
    have q0 := hole_box hbx.out.2.2.1
    have hsz' := BW.out.size
    by_cases hlt' : k < n
    · obtain ⟨c0, c1, c2, c3⟩ := HCC.out k hlt'
      have t0 : decide (k < n) = true := decide_eq_true hlt'
      have d0 := oldCell BW.out hb c0
      have d1 := oldCell BW.out hb c1
      have d2 := oldCell BW.out hb c2
      have hbw : b < wr.heap.size := by omega
      have hst := Lib.hid (sizeUp_step l k)
      have hsr := Lib.hid (riseUp_step l k)
      have hu := HG.out.ups k (by rw [HN.out]; omega)
      obtain ⟨_, y1, y2, y3, u5, u6⟩ := hu
      have hs2 := HG.out.seg (k := k) (by rw [HN.out]; exact hlt')
      obtain ⟨y4, z1, z2⟩ := hs2
      have hfr := HG.out.fair k (by rw [HN.out]; exact hlt')
      obtain ⟨y5, y6⟩ := And.intro hfr.rise0 hfr.rise1
      have hse : Hid (segSize (sg l k) = (sg l k).Long * (sg l k).Area) := rfl
      have hkk := Lib.hid (HSU.out k)
      rw [hst.out, hsr.out] at hkk
      have e0 := hbx.out.2.1.cell 0
      have e1 := hbx.out.2.1.cell 1
      have f0 := hbx.out.2.1.frozen 0
      have f1 := hbx.out.2.1.frozen 1
      simp only [List.getElem?_toArray, List.getElem?_cons_zero, List.getElem?_cons_succ] at e0 e1
      clear c0 c1 c2 c3 hfr
      generalize hSk : sizeUp l k = S at *
      generalize hRk : riseUp l k = R at *
      generalize hS1 : sizeUp l (k + 1) = S1 at *
      generalize hR1 : riseUp l (k + 1) = R1 at *
      have HS1 := Lib.hid hS1
      have HR1 := Lib.hid hR1
      clear hSk hS1 hRk hR1
      generalize segSize (sg l k) = z at *
      generalize sg l k = s at *
      have hw1 : IntKind.i64.wrap (s.Long * s.Area) = z := by rw [← hse.out]; exact IntWalk.i64_in _ (by omega)
      have hw2 : IntKind.i64.wrap (S + z) = S + z := IntWalk.i64_in _ (by omega)
      have hw3 : IntKind.i64.wrap (R + s.Rise) = R + s.Rise := IntWalk.i64_in _ (by omega)
      have b1 : (k : Int) < (n : Int) := by omega
      have b2 : (0 : Int) ≤ (k : Int) := by omega
      have hkb := hbx.out.2.1.lt
      go_upto_region 8 with fail
      go_cut [] (fun wx => Hid (((wr.setCell ⟨w1.heap.size + 1 + 1, 0, none⟩ (.int .i64 (S + z))).setCell ⟨w1.heap.size + 1 + 1, 1, none⟩ (.int .i64 (R + s.Rise))).drew = wx))
      case first =>
        have SS : (fun (f : Bool) (w' : World) => (w'.cell? ⟨w.heap.size, 0, none⟩ = some (.slice (some ⟨b, off, none⟩) n c) ∧ w'.cell? ⟨b, off + k * 4, none⟩ = some (.int .i64 s.Long) ∧ w'.cell? ⟨b, off + k * 4 + 1, none⟩ = some (.int .i64 s.Rise) ∧ w'.cell? ⟨b, off + k * 4 + 2, none⟩ = some (.int .i64 s.Area)) ∧ (f = false → w'.cell? ⟨w1.heap.size + 1 + 1, 0, none⟩ = some (.int .i64 S) ∧ w'.cell? ⟨w1.heap.size + 1 + 1, 1, none⟩ = some (.int .i64 R))) false wr.drew := ⟨⟨q0, d0, d1, d2⟩, fun _ => ⟨e0, e1⟩⟩
        refine AnyMid.begin (q := 26) (S := (fun (f : Bool) (w' : World) => (w'.cell? ⟨w.heap.size, 0, none⟩ = some (.slice (some ⟨b, off, none⟩) n c) ∧ w'.cell? ⟨b, off + k * 4, none⟩ = some (.int .i64 s.Long) ∧ w'.cell? ⟨b, off + k * 4 + 1, none⟩ = some (.int .i64 s.Rise) ∧ w'.cell? ⟨b, off + k * 4 + 2, none⟩ = some (.int .i64 s.Area)) ∧ (f = false → w'.cell? ⟨w1.heap.size + 1 + 1, 0, none⟩ = some (.int .i64 S) ∧ w'.cell? ⟨w1.heap.size + 1 + 1, 1, none⟩ = some (.int .i64 R)))) (Z := fun i => i == 28) mixed ?_
        refine AnyMid.take (fun w' : World => (w'.cell? ⟨w.heap.size, 0, none⟩ = some (.slice (some ⟨b, off, none⟩) n c) ∧ w'.cell? ⟨b, off + k * 4, none⟩ = some (.int .i64 s.Long) ∧ w'.cell? ⟨b, off + k * 4 + 1, none⟩ = some (.int .i64 s.Rise) ∧ w'.cell? ⟨b, off + k * 4 + 2, none⟩ = some (.int .i64 s.Area)) ∧ w'.cell? ⟨w1.heap.size + 1 + 1, 0, none⟩ = some (.int .i64 S) ∧ w'.cell? ⟨w1.heap.size + 1 + 1, 1, none⟩ = some (.int .i64 R)) (i := 0) (v := .pointer (some ⟨w1.heap.size + 1 + 1, 0, none⟩)) [28] 6 (by simp) (fun _ h => ⟨h.1, h.2 rfl⟩) (.inl (by decide +kernel)) SS rfl (by decide +kernel) (fun _ _ _ h => h) (Or.inl ⟨by simp [Region.wanted], fun w' hw' => by (obtain ⟨⟨s0, s1, s2, s3⟩, s4, s5⟩ := hw'; go_simp)⟩) ?_
        refine AnyMid.take (fun w' : World => (w'.cell? ⟨w.heap.size, 0, none⟩ = some (.slice (some ⟨b, off, none⟩) n c) ∧ w'.cell? ⟨b, off + k * 4, none⟩ = some (.int .i64 s.Long) ∧ w'.cell? ⟨b, off + k * 4 + 1, none⟩ = some (.int .i64 s.Rise) ∧ w'.cell? ⟨b, off + k * 4 + 2, none⟩ = some (.int .i64 s.Area)) ∧ w'.cell? ⟨w1.heap.size + 1 + 1, 0, none⟩ = some (.int .i64 S) ∧ w'.cell? ⟨w1.heap.size + 1 + 1, 1, none⟩ = some (.int .i64 R)) (i := 1) (v := .int .i64 S) [28] 6 (by simp) (fun _ h => ⟨h.1, h.2 rfl⟩) (.inl (by decide +kernel)) SS rfl (by decide +kernel) (fun _ _ _ h => h) (Or.inl ⟨by simp [Region.wanted], fun w' hw' => by (obtain ⟨⟨s0, s1, s2, s3⟩, s4, s5⟩ := hw'; go_simp)⟩) ?_
        refine AnyMid.take (fun w' : World => (w'.cell? ⟨w.heap.size, 0, none⟩ = some (.slice (some ⟨b, off, none⟩) n c) ∧ w'.cell? ⟨b, off + k * 4, none⟩ = some (.int .i64 s.Long) ∧ w'.cell? ⟨b, off + k * 4 + 1, none⟩ = some (.int .i64 s.Rise) ∧ w'.cell? ⟨b, off + k * 4 + 2, none⟩ = some (.int .i64 s.Area)) ∧ w'.cell? ⟨w1.heap.size + 1 + 1, 0, none⟩ = some (.int .i64 S) ∧ w'.cell? ⟨w1.heap.size + 1 + 1, 1, none⟩ = some (.int .i64 R)) (i := 2) (v := .pointer (some ⟨w.heap.size, 0, none⟩)) [28] 6 (by simp) (fun _ h => ⟨h.1, h.2 rfl⟩) (.inl (by decide +kernel)) SS rfl (by decide +kernel) (fun _ _ _ h => h) (Or.inl ⟨by simp [Region.wanted], fun w' hw' => by (obtain ⟨⟨s0, s1, s2, s3⟩, s4, s5⟩ := hw'; go_simp)⟩) ?_
        refine AnyMid.take (fun w' : World => (w'.cell? ⟨w.heap.size, 0, none⟩ = some (.slice (some ⟨b, off, none⟩) n c) ∧ w'.cell? ⟨b, off + k * 4, none⟩ = some (.int .i64 s.Long) ∧ w'.cell? ⟨b, off + k * 4 + 1, none⟩ = some (.int .i64 s.Rise) ∧ w'.cell? ⟨b, off + k * 4 + 2, none⟩ = some (.int .i64 s.Area)) ∧ w'.cell? ⟨w1.heap.size + 1 + 1, 0, none⟩ = some (.int .i64 S) ∧ w'.cell? ⟨w1.heap.size + 1 + 1, 1, none⟩ = some (.int .i64 R)) (i := 3) (v := .slice (some ⟨b, off, none⟩) n c) [28] 6 (by simp) (fun _ h => ⟨h.1, h.2 rfl⟩) (.inl (by decide +kernel)) SS rfl (by decide +kernel) (fun _ _ _ h => h) (Or.inl ⟨by simp [Region.wanted], fun w' hw' => by (obtain ⟨⟨s0, s1, s2, s3⟩, s4, s5⟩ := hw'; go_simp)⟩) ?_
        refine AnyMid.take (fun w' : World => (w'.cell? ⟨w.heap.size, 0, none⟩ = some (.slice (some ⟨b, off, none⟩) n c) ∧ w'.cell? ⟨b, off + k * 4, none⟩ = some (.int .i64 s.Long) ∧ w'.cell? ⟨b, off + k * 4 + 1, none⟩ = some (.int .i64 s.Rise) ∧ w'.cell? ⟨b, off + k * 4 + 2, none⟩ = some (.int .i64 s.Area)) ∧ w'.cell? ⟨w1.heap.size + 1 + 1, 0, none⟩ = some (.int .i64 S) ∧ w'.cell? ⟨w1.heap.size + 1 + 1, 1, none⟩ = some (.int .i64 R)) (i := 4) (v := .int .i64 k) [28] 6 (by simp) (fun _ h => ⟨h.1, h.2 rfl⟩) (.inl (by decide +kernel)) SS rfl (by decide +kernel) (fun _ _ _ h => h) (Or.inl ⟨by simp [Region.wanted], fun w' hw' => by (obtain ⟨⟨s0, s1, s2, s3⟩, s4, s5⟩ := hw'; go_simp)⟩) ?_
        refine AnyMid.take (fun w' : World => (w'.cell? ⟨w.heap.size, 0, none⟩ = some (.slice (some ⟨b, off, none⟩) n c) ∧ w'.cell? ⟨b, off + k * 4, none⟩ = some (.int .i64 s.Long) ∧ w'.cell? ⟨b, off + k * 4 + 1, none⟩ = some (.int .i64 s.Rise) ∧ w'.cell? ⟨b, off + k * 4 + 2, none⟩ = some (.int .i64 s.Area)) ∧ w'.cell? ⟨w1.heap.size + 1 + 1, 0, none⟩ = some (.int .i64 S) ∧ w'.cell? ⟨w1.heap.size + 1 + 1, 1, none⟩ = some (.int .i64 R)) (i := 5) (v := .pointer (some ⟨b, off + k * 4, none⟩)) [28] 6 (by simp) (fun _ h => ⟨h.1, h.2 rfl⟩) (.inl (by decide +kernel)) SS rfl (by decide +kernel) (fun _ _ _ h => h) (Or.inl ⟨by simp [Region.wanted], fun w' hw' => by (obtain ⟨⟨s0, s1, s2, s3⟩, s4, s5⟩ := hw'; go_simp)⟩) ?_
        refine AnyMid.take (fun w' : World => (w'.cell? ⟨w.heap.size, 0, none⟩ = some (.slice (some ⟨b, off, none⟩) n c) ∧ w'.cell? ⟨b, off + k * 4, none⟩ = some (.int .i64 s.Long) ∧ w'.cell? ⟨b, off + k * 4 + 1, none⟩ = some (.int .i64 s.Rise) ∧ w'.cell? ⟨b, off + k * 4 + 2, none⟩ = some (.int .i64 s.Area)) ∧ w'.cell? ⟨w1.heap.size + 1 + 1, 0, none⟩ = some (.int .i64 S) ∧ w'.cell? ⟨w1.heap.size + 1 + 1, 1, none⟩ = some (.int .i64 R)) (i := 6) (v := .pointer (some ⟨b, off + k * 4, none⟩)) [28] 6 (by simp) (fun _ h => ⟨h.1, h.2 rfl⟩) (.inl (by decide +kernel)) SS rfl (by decide +kernel) (fun _ _ _ h => h) (Or.inl ⟨by simp [Region.wanted], fun w' hw' => by (obtain ⟨⟨s0, s1, s2, s3⟩, s4, s5⟩ := hw'; go_simp)⟩) ?_
        refine AnyMid.take (fun w' : World => (w'.cell? ⟨w.heap.size, 0, none⟩ = some (.slice (some ⟨b, off, none⟩) n c) ∧ w'.cell? ⟨b, off + k * 4, none⟩ = some (.int .i64 s.Long) ∧ w'.cell? ⟨b, off + k * 4 + 1, none⟩ = some (.int .i64 s.Rise) ∧ w'.cell? ⟨b, off + k * 4 + 2, none⟩ = some (.int .i64 s.Area)) ∧ w'.cell? ⟨w1.heap.size + 1 + 1, 0, none⟩ = some (.int .i64 S) ∧ w'.cell? ⟨w1.heap.size + 1 + 1, 1, none⟩ = some (.int .i64 R)) (i := 7) (v := .int .i64 s.Long) [28] 6 (by simp) (fun _ h => ⟨h.1, h.2 rfl⟩) (.inl (by decide +kernel)) SS rfl (by decide +kernel) (fun _ _ _ h => h) (Or.inl ⟨by simp [Region.wanted], fun w' hw' => by (obtain ⟨⟨s0, s1, s2, s3⟩, s4, s5⟩ := hw'; go_simp)⟩) ?_
        refine AnyMid.take (fun w' : World => (w'.cell? ⟨w.heap.size, 0, none⟩ = some (.slice (some ⟨b, off, none⟩) n c) ∧ w'.cell? ⟨b, off + k * 4, none⟩ = some (.int .i64 s.Long) ∧ w'.cell? ⟨b, off + k * 4 + 1, none⟩ = some (.int .i64 s.Rise) ∧ w'.cell? ⟨b, off + k * 4 + 2, none⟩ = some (.int .i64 s.Area)) ∧ w'.cell? ⟨w1.heap.size + 1 + 1, 0, none⟩ = some (.int .i64 S) ∧ w'.cell? ⟨w1.heap.size + 1 + 1, 1, none⟩ = some (.int .i64 R)) (i := 8) (v := .pointer (some ⟨w.heap.size, 0, none⟩)) [28] 6 (by simp) (fun _ h => ⟨h.1, h.2 rfl⟩) (.inl (by decide +kernel)) SS rfl (by decide +kernel) (fun _ _ _ h => h) (Or.inl ⟨by simp [Region.wanted], fun w' hw' => by (obtain ⟨⟨s0, s1, s2, s3⟩, s4, s5⟩ := hw'; go_simp)⟩) ?_
        refine AnyMid.take (fun w' : World => (w'.cell? ⟨w.heap.size, 0, none⟩ = some (.slice (some ⟨b, off, none⟩) n c) ∧ w'.cell? ⟨b, off + k * 4, none⟩ = some (.int .i64 s.Long) ∧ w'.cell? ⟨b, off + k * 4 + 1, none⟩ = some (.int .i64 s.Rise) ∧ w'.cell? ⟨b, off + k * 4 + 2, none⟩ = some (.int .i64 s.Area)) ∧ w'.cell? ⟨w1.heap.size + 1 + 1, 0, none⟩ = some (.int .i64 S) ∧ w'.cell? ⟨w1.heap.size + 1 + 1, 1, none⟩ = some (.int .i64 R)) (i := 9) (v := .slice (some ⟨b, off, none⟩) n c) [28] 6 (by simp) (fun _ h => ⟨h.1, h.2 rfl⟩) (.inl (by decide +kernel)) SS rfl (by decide +kernel) (fun _ _ _ h => h) (Or.inl ⟨by simp [Region.wanted], fun w' hw' => by (obtain ⟨⟨s0, s1, s2, s3⟩, s4, s5⟩ := hw'; go_simp)⟩) ?_
        refine AnyMid.take (fun w' : World => (w'.cell? ⟨w.heap.size, 0, none⟩ = some (.slice (some ⟨b, off, none⟩) n c) ∧ w'.cell? ⟨b, off + k * 4, none⟩ = some (.int .i64 s.Long) ∧ w'.cell? ⟨b, off + k * 4 + 1, none⟩ = some (.int .i64 s.Rise) ∧ w'.cell? ⟨b, off + k * 4 + 2, none⟩ = some (.int .i64 s.Area)) ∧ w'.cell? ⟨w1.heap.size + 1 + 1, 0, none⟩ = some (.int .i64 S) ∧ w'.cell? ⟨w1.heap.size + 1 + 1, 1, none⟩ = some (.int .i64 R)) (i := 10) (v := .int .i64 k) [28] 6 (by simp) (fun _ h => ⟨h.1, h.2 rfl⟩) (.inl (by decide +kernel)) SS rfl (by decide +kernel) (fun _ _ _ h => h) (Or.inl ⟨by simp [Region.wanted], fun w' hw' => by (obtain ⟨⟨s0, s1, s2, s3⟩, s4, s5⟩ := hw'; go_simp)⟩) ?_
        refine AnyMid.take (fun w' : World => (w'.cell? ⟨w.heap.size, 0, none⟩ = some (.slice (some ⟨b, off, none⟩) n c) ∧ w'.cell? ⟨b, off + k * 4, none⟩ = some (.int .i64 s.Long) ∧ w'.cell? ⟨b, off + k * 4 + 1, none⟩ = some (.int .i64 s.Rise) ∧ w'.cell? ⟨b, off + k * 4 + 2, none⟩ = some (.int .i64 s.Area)) ∧ w'.cell? ⟨w1.heap.size + 1 + 1, 0, none⟩ = some (.int .i64 S) ∧ w'.cell? ⟨w1.heap.size + 1 + 1, 1, none⟩ = some (.int .i64 R)) (i := 11) (v := .pointer (some ⟨b, off + k * 4, none⟩)) [28] 6 (by simp) (fun _ h => ⟨h.1, h.2 rfl⟩) (.inl (by decide +kernel)) SS rfl (by decide +kernel) (fun _ _ _ h => h) (Or.inl ⟨by simp [Region.wanted], fun w' hw' => by (obtain ⟨⟨s0, s1, s2, s3⟩, s4, s5⟩ := hw'; go_simp)⟩) ?_
        refine AnyMid.take (fun w' : World => (w'.cell? ⟨w.heap.size, 0, none⟩ = some (.slice (some ⟨b, off, none⟩) n c) ∧ w'.cell? ⟨b, off + k * 4, none⟩ = some (.int .i64 s.Long) ∧ w'.cell? ⟨b, off + k * 4 + 1, none⟩ = some (.int .i64 s.Rise) ∧ w'.cell? ⟨b, off + k * 4 + 2, none⟩ = some (.int .i64 s.Area)) ∧ w'.cell? ⟨w1.heap.size + 1 + 1, 0, none⟩ = some (.int .i64 S) ∧ w'.cell? ⟨w1.heap.size + 1 + 1, 1, none⟩ = some (.int .i64 R)) (i := 12) (v := .pointer (some ⟨b, off + k * 4 + 2, none⟩)) [28] 6 (by simp) (fun _ h => ⟨h.1, h.2 rfl⟩) (.inl (by decide +kernel)) SS rfl (by decide +kernel) (fun _ _ _ h => h) (Or.inl ⟨by simp [Region.wanted], fun w' hw' => by (obtain ⟨⟨s0, s1, s2, s3⟩, s4, s5⟩ := hw'; go_simp)⟩) ?_
        refine AnyMid.take (fun w' : World => (w'.cell? ⟨w.heap.size, 0, none⟩ = some (.slice (some ⟨b, off, none⟩) n c) ∧ w'.cell? ⟨b, off + k * 4, none⟩ = some (.int .i64 s.Long) ∧ w'.cell? ⟨b, off + k * 4 + 1, none⟩ = some (.int .i64 s.Rise) ∧ w'.cell? ⟨b, off + k * 4 + 2, none⟩ = some (.int .i64 s.Area)) ∧ w'.cell? ⟨w1.heap.size + 1 + 1, 0, none⟩ = some (.int .i64 S) ∧ w'.cell? ⟨w1.heap.size + 1 + 1, 1, none⟩ = some (.int .i64 R)) (i := 13) (v := .int .i64 s.Area) [28] 6 (by simp) (fun _ h => ⟨h.1, h.2 rfl⟩) (.inl (by decide +kernel)) SS rfl (by decide +kernel) (fun _ _ _ h => h) (Or.inl ⟨by simp [Region.wanted], fun w' hw' => by (obtain ⟨⟨s0, s1, s2, s3⟩, s4, s5⟩ := hw'; go_simp)⟩) ?_
        refine AnyMid.take (fun w' : World => (w'.cell? ⟨w.heap.size, 0, none⟩ = some (.slice (some ⟨b, off, none⟩) n c) ∧ w'.cell? ⟨b, off + k * 4, none⟩ = some (.int .i64 s.Long) ∧ w'.cell? ⟨b, off + k * 4 + 1, none⟩ = some (.int .i64 s.Rise) ∧ w'.cell? ⟨b, off + k * 4 + 2, none⟩ = some (.int .i64 s.Area)) ∧ w'.cell? ⟨w1.heap.size + 1 + 1, 0, none⟩ = some (.int .i64 S) ∧ w'.cell? ⟨w1.heap.size + 1 + 1, 1, none⟩ = some (.int .i64 R)) (i := 14) (v := .int .i64 z) [28] 6 (by simp) (fun _ h => ⟨h.1, h.2 rfl⟩) (.inl (by decide +kernel)) SS rfl (by decide +kernel) (fun _ _ _ h => h) (Or.inl ⟨by simp [Region.wanted], fun w' hw' => by (obtain ⟨⟨s0, s1, s2, s3⟩, s4, s5⟩ := hw'; go_simp)⟩) ?_
        refine AnyMid.take (fun w' : World => (w'.cell? ⟨w.heap.size, 0, none⟩ = some (.slice (some ⟨b, off, none⟩) n c) ∧ w'.cell? ⟨b, off + k * 4, none⟩ = some (.int .i64 s.Long) ∧ w'.cell? ⟨b, off + k * 4 + 1, none⟩ = some (.int .i64 s.Rise) ∧ w'.cell? ⟨b, off + k * 4 + 2, none⟩ = some (.int .i64 s.Area)) ∧ w'.cell? ⟨w1.heap.size + 1 + 1, 0, none⟩ = some (.int .i64 S) ∧ w'.cell? ⟨w1.heap.size + 1 + 1, 1, none⟩ = some (.int .i64 R)) (i := 15) (v := .int .i64 (S + z)) [28] 6 (by simp) (fun _ h => ⟨h.1, h.2 rfl⟩) (.inl (by decide +kernel)) SS rfl (by decide +kernel) (fun _ _ _ h => h) (Or.inl ⟨by simp [Region.wanted], fun w' hw' => by (obtain ⟨⟨s0, s1, s2, s3⟩, s4, s5⟩ := hw'; go_simp)⟩) ?_
        refine AnyMid.take (fun w' : World => (w'.cell? ⟨w.heap.size, 0, none⟩ = some (.slice (some ⟨b, off, none⟩) n c) ∧ w'.cell? ⟨b, off + k * 4, none⟩ = some (.int .i64 s.Long) ∧ w'.cell? ⟨b, off + k * 4 + 1, none⟩ = some (.int .i64 s.Rise) ∧ w'.cell? ⟨b, off + k * 4 + 2, none⟩ = some (.int .i64 s.Area)) ∧ w'.cell? ⟨w1.heap.size + 1 + 1, 0, none⟩ = some (.int .i64 S) ∧ w'.cell? ⟨w1.heap.size + 1 + 1, 1, none⟩ = some (.int .i64 R)) (i := 16) (v := .pointer (some ⟨w1.heap.size + 1 + 1, 1, none⟩)) [28] 6 (by simp) (fun _ h => ⟨h.1, h.2 rfl⟩) (.inl (by decide +kernel)) SS rfl (by decide +kernel) (fun _ _ _ h => h) (Or.inl ⟨by simp [Region.wanted], fun w' hw' => by (obtain ⟨⟨s0, s1, s2, s3⟩, s4, s5⟩ := hw'; go_simp)⟩) ?_
        refine AnyMid.take (fun w' : World => (w'.cell? ⟨w.heap.size, 0, none⟩ = some (.slice (some ⟨b, off, none⟩) n c) ∧ w'.cell? ⟨b, off + k * 4, none⟩ = some (.int .i64 s.Long) ∧ w'.cell? ⟨b, off + k * 4 + 1, none⟩ = some (.int .i64 s.Rise) ∧ w'.cell? ⟨b, off + k * 4 + 2, none⟩ = some (.int .i64 s.Area)) ∧ w'.cell? ⟨w1.heap.size + 1 + 1, 0, none⟩ = some (.int .i64 S) ∧ w'.cell? ⟨w1.heap.size + 1 + 1, 1, none⟩ = some (.int .i64 R)) (i := 17) (v := .int .i64 R) [28] 6 (by simp) (fun _ h => ⟨h.1, h.2 rfl⟩) (.inl (by decide +kernel)) SS rfl (by decide +kernel) (fun _ _ _ h => h) (Or.inl ⟨by simp [Region.wanted], fun w' hw' => by (obtain ⟨⟨s0, s1, s2, s3⟩, s4, s5⟩ := hw'; go_simp)⟩) ?_
        refine AnyMid.take (fun w' : World => (w'.cell? ⟨w.heap.size, 0, none⟩ = some (.slice (some ⟨b, off, none⟩) n c) ∧ w'.cell? ⟨b, off + k * 4, none⟩ = some (.int .i64 s.Long) ∧ w'.cell? ⟨b, off + k * 4 + 1, none⟩ = some (.int .i64 s.Rise) ∧ w'.cell? ⟨b, off + k * 4 + 2, none⟩ = some (.int .i64 s.Area)) ∧ w'.cell? ⟨w1.heap.size + 1 + 1, 0, none⟩ = some (.int .i64 S) ∧ w'.cell? ⟨w1.heap.size + 1 + 1, 1, none⟩ = some (.int .i64 R)) (i := 25) (v := .pointer (some ⟨w1.heap.size + 1 + 1, 0, none⟩)) [28] 6 (by simp) (fun _ h => ⟨h.1, h.2 rfl⟩) (.inl (by decide +kernel)) SS rfl (by decide +kernel) (fun _ _ _ h => h) (Or.inl ⟨by simp [Region.wanted], fun w' hw' => by (obtain ⟨⟨s0, s1, s2, s3⟩, s4, s5⟩ := hw'; go_simp)⟩) ?_
        refine AnyMid.take (fun w' : World => w'.cell? ⟨w.heap.size, 0, none⟩ = some (.slice (some ⟨b, off, none⟩) n c) ∧ w'.cell? ⟨b, off + k * 4, none⟩ = some (.int .i64 s.Long) ∧ w'.cell? ⟨b, off + k * 4 + 1, none⟩ = some (.int .i64 s.Rise) ∧ w'.cell? ⟨b, off + k * 4 + 2, none⟩ = some (.int .i64 s.Area)) (i := 18) (v := .pointer (some ⟨w.heap.size, 0, none⟩)) [28] 6 (by simp) (fun _ h => h.1) (.inr fun _ h => h.1) SS rfl (by decide +kernel) (fun _ _ _ h => h) (Or.inl ⟨by simp [Region.wanted], fun w' hw' => by (obtain ⟨s0, s1, s2, s3⟩ := hw'; go_simp)⟩) ?_
        refine AnyMid.take (fun w' : World => w'.cell? ⟨w.heap.size, 0, none⟩ = some (.slice (some ⟨b, off, none⟩) n c) ∧ w'.cell? ⟨b, off + k * 4, none⟩ = some (.int .i64 s.Long) ∧ w'.cell? ⟨b, off + k * 4 + 1, none⟩ = some (.int .i64 s.Rise) ∧ w'.cell? ⟨b, off + k * 4 + 2, none⟩ = some (.int .i64 s.Area)) (i := 19) (v := .slice (some ⟨b, off, none⟩) n c) [28] 6 (by simp) (fun _ h => h.1) (.inr fun _ h => h.1) SS rfl (by decide +kernel) (fun _ _ _ h => h) (Or.inl ⟨by simp [Region.wanted], fun w' hw' => by (obtain ⟨s0, s1, s2, s3⟩ := hw'; go_simp)⟩) ?_
        refine AnyMid.take (fun w' : World => w'.cell? ⟨w.heap.size, 0, none⟩ = some (.slice (some ⟨b, off, none⟩) n c) ∧ w'.cell? ⟨b, off + k * 4, none⟩ = some (.int .i64 s.Long) ∧ w'.cell? ⟨b, off + k * 4 + 1, none⟩ = some (.int .i64 s.Rise) ∧ w'.cell? ⟨b, off + k * 4 + 2, none⟩ = some (.int .i64 s.Area)) (i := 20) (v := .int .i64 k) [28] 6 (by simp) (fun _ h => h.1) (.inr fun _ h => h.1) SS rfl (by decide +kernel) (fun _ _ _ h => h) (Or.inl ⟨by simp [Region.wanted], fun w' hw' => by (obtain ⟨s0, s1, s2, s3⟩ := hw'; go_simp)⟩) ?_
        refine AnyMid.take (fun w' : World => w'.cell? ⟨w.heap.size, 0, none⟩ = some (.slice (some ⟨b, off, none⟩) n c) ∧ w'.cell? ⟨b, off + k * 4, none⟩ = some (.int .i64 s.Long) ∧ w'.cell? ⟨b, off + k * 4 + 1, none⟩ = some (.int .i64 s.Rise) ∧ w'.cell? ⟨b, off + k * 4 + 2, none⟩ = some (.int .i64 s.Area)) (i := 21) (v := .pointer (some ⟨b, off + k * 4, none⟩)) [28] 6 (by simp) (fun _ h => h.1) (.inr fun _ h => h.1) SS rfl (by decide +kernel) (fun _ _ _ h => h) (Or.inl ⟨by simp [Region.wanted], fun w' hw' => by (obtain ⟨s0, s1, s2, s3⟩ := hw'; go_simp)⟩) ?_
        refine AnyMid.take (fun w' : World => w'.cell? ⟨w.heap.size, 0, none⟩ = some (.slice (some ⟨b, off, none⟩) n c) ∧ w'.cell? ⟨b, off + k * 4, none⟩ = some (.int .i64 s.Long) ∧ w'.cell? ⟨b, off + k * 4 + 1, none⟩ = some (.int .i64 s.Rise) ∧ w'.cell? ⟨b, off + k * 4 + 2, none⟩ = some (.int .i64 s.Area)) (i := 22) (v := .pointer (some ⟨b, off + k * 4 + 1, none⟩)) [28] 6 (by simp) (fun _ h => h.1) (.inr fun _ h => h.1) SS rfl (by decide +kernel) (fun _ _ _ h => h) (Or.inl ⟨by simp [Region.wanted], fun w' hw' => by (obtain ⟨s0, s1, s2, s3⟩ := hw'; go_simp)⟩) ?_
        refine AnyMid.take (fun w' : World => w'.cell? ⟨w.heap.size, 0, none⟩ = some (.slice (some ⟨b, off, none⟩) n c) ∧ w'.cell? ⟨b, off + k * 4, none⟩ = some (.int .i64 s.Long) ∧ w'.cell? ⟨b, off + k * 4 + 1, none⟩ = some (.int .i64 s.Rise) ∧ w'.cell? ⟨b, off + k * 4 + 2, none⟩ = some (.int .i64 s.Area)) (i := 23) (v := .int .i64 s.Rise) [28] 6 (by simp) (fun _ h => h.1) (.inr fun _ h => h.1) SS rfl (by decide +kernel) (fun _ _ _ h => h) (Or.inl ⟨by simp [Region.wanted], fun w' hw' => by (obtain ⟨s0, s1, s2, s3⟩ := hw'; go_simp)⟩) ?_
        refine AnyMid.take (fun w' : World => w'.cell? ⟨w.heap.size, 0, none⟩ = some (.slice (some ⟨b, off, none⟩) n c) ∧ w'.cell? ⟨b, off + k * 4, none⟩ = some (.int .i64 s.Long) ∧ w'.cell? ⟨b, off + k * 4 + 1, none⟩ = some (.int .i64 s.Rise) ∧ w'.cell? ⟨b, off + k * 4 + 2, none⟩ = some (.int .i64 s.Area)) (i := 24) (v := .int .i64 (R + s.Rise)) [28] 6 (by simp) (fun _ h => h.1) (.inr fun _ h => h.1) SS rfl (by decide +kernel) (fun _ _ _ h => h) (Or.inl ⟨by simp [Region.wanted], fun w' hw' => by (obtain ⟨s0, s1, s2, s3⟩ := hw'; go_simp)⟩) ?_
        clear SS
        refine AnyMid.only (i := 26) (by decide +kernel) rfl rfl (fun K hK => ?_)
        go_wp2_with fail
        have SS : (fun (f : Bool) (w' : World) => (w'.cell? ⟨w.heap.size, 0, none⟩ = some (.slice (some ⟨b, off, none⟩) n c) ∧ w'.cell? ⟨b, off + k * 4, none⟩ = some (.int .i64 s.Long) ∧ w'.cell? ⟨b, off + k * 4 + 1, none⟩ = some (.int .i64 s.Rise) ∧ w'.cell? ⟨b, off + k * 4 + 2, none⟩ = some (.int .i64 s.Area)) ∧ (f = false → w'.cell? ⟨w1.heap.size + 1 + 1, 0, none⟩ = some (.int .i64 S) ∧ w'.cell? ⟨w1.heap.size + 1 + 1, 1, none⟩ = some (.int .i64 R))) true ((wr.setCell ⟨w1.heap.size + 1 + 1, 0, none⟩ (.int .i64 (S + z))).drew) := ⟨⟨by go_simp, by go_simp, by go_simp, by go_simp⟩, fun h => (by cases h)⟩
        refine hK _ _ (fun _ => SS) ?_
        clear hK K
        refine AnyMid.only (i := 27) (by decide +kernel) rfl rfl (fun K hK => ?_)
        go_wp2_with fail
        refine hK _ _ (fun _ => SS) ?_
        clear hK K SS
        refine AnyMid.only (i := 28) (by decide +kernel) rfl rfl (fun K hK => ?_)
        go_wp2_with fail
        refine hK _ _ (fun h => (by cases h)) ?_
        clear hK K
        refine AnyMid.done (by decide +kernel) ?_
        go_wp2_with fail
        go_meet
        exact rfl
      case rest =>
        clear q0 d0 d1 d2 e0 e1 f0 f1 hw1 hw2 hw3 hkb
        have hW2 := hcut.out
        have OWN2 := Lib.hid (show wc.ownsRow w1.heap.size 91 2 v (k + 1) ((heightKnots l k).flatMap knotC) by rw [← hW2]; exact own_set (p := ⟨w1.heap.size + 1 + 1, 1, none⟩) (own_set (p := ⟨w1.heap.size + 1 + 1, 0, none⟩) hown.out hne.out _) hne.out _)
        have C1 := Lib.hid (show Box wc (w1.heap.size + 1) 46 #[v] by rw [← hW2]; exact ((hbx.out.1.far (by simp) _).far (by simp) _).drew)
        have C2 := Lib.hid (show Box wc (w1.heap.size + 1 + 1) 91 #[.int .i64 (S + z), .int .i64 (R + s.Rise)] by rw [← hW2]; have := ((hbx.out.2.1.set_ 0 (.int .i64 (S + z))).set_ 1 (.int .i64 (R + s.Rise))).drew; simpa using this)
        have CH := Lib.hid (show Box wc w.heap.size 24 #[.slice (some ⟨b, off, none⟩) n c] by rw [← hW2]; exact ((hbx.out.2.2.1.far (by simp; omega) _).far (by simp; omega) _).drew)
        have CR := Lib.hid (show Box wc (w.heap.size + 1) 46 #[.slice none 0 0] by rw [← hW2]; exact ((hbx.out.2.2.2.far (by simp; omega) _).far (by simp; omega) _).drew)
        have HB2 := Lib.hid (show Below w.heap.size w wc by rw [← hW2]; exact ((BW.out.setCell (p := ⟨w1.heap.size + 1 + 1, 0, none⟩) (by simp; omega) _).setCell (p := ⟨w1.heap.size + 1 + 1, 1, none⟩) (by simp; omega) _).drew)
        have HS2 := Lib.hid (show w1.heap.size + 1 + 1 + 1 ≤ wc.heap.size by rw [← hW2]; simpa using hsz.out)
        have HW2 := Lib.hid hW2
        have g0 := C1.out.cell 0
        have g1 := C2.out.cell 0
        have g2 := C2.out.cell 1
        simp only [List.getElem?_toArray, List.getElem?_cons_zero, List.getElem?_cons_succ] at g0 g1 g2
        have l1 := C1.out.lt
        have l2 := C2.out.lt
        clear hW2 HW2 hcut hown hbx
        go_wp2_with (at_builtin; refine wpList_append_own _ rfl _ _ 44 rfl w1.heap.size 91 i0 (.agg #[.int .i64 0, .int .i64 0]) 2 16 Try.underlying44 hi0 hz0 hz1 hz2 rfl (by decide) v (k + 1) ((heightKnots l k).flatMap knotC) rfl (OWN2.out.alloc _) ⟨wc.heap.size, 0, none⟩ 1 1 (knotC ⟨S + z, R + s.Rise⟩) rfl rfl ?_ ?_ ?_ ?_ ?_ ?_)
        · exact cells_new wc (knotC ⟨S + z, R + s.Rise⟩) 91
        · simp [knotC, Value.oneCell']
        · unfold maxLen; omega
        · omega
        · have := HS2.out; simp; omega
        intro v' w7 hown7 hg7 _
        obtain ⟨A7, cap7, rfl, _, hA7⟩ := own_form hown7
        obtain ⟨g7, rfl, hg7b, hg7lt, hrest⟩ := hA7 (by omega)
        clear hrest hA7
        have E1 := (C1.out.alloc (.cells #[.int .i64 (S + z), .int .i64 (R + s.Rise)] 91)).grownRow hg7 (own_box (OWN2.out.alloc (.cells #[.int .i64 (S + z), .int .i64 (R + s.Rise)] 91)) (C1.out.alloc (.cells #[.int .i64 (S + z), .int .i64 (R + s.Rise)] 91)) (by decide))
        have NX := refHeight_next (w := w) (M := w1.heap.size) hlt hkk.out OWN2.out hne.out C1.out C2.out CH.out CR.out HB2.out hown7 hg7
        have HNX := Lib.hid NX
        have HE1 := Lib.hid E1
        have hs7 := hg7.size
        have HS7 := Lib.hid (show w1.heap.size + 1 + 1 + 1 ≤ w7.heap.size by have := HS2.out; simp at hs7; omega)
        have g3 := E1.cell 0
        have g4 := E1.frozen 0
        simp only [List.getElem?_toArray, List.getElem?_cons_zero] at g3
        clear NX E1 hown7 hg7 hs7 g0 g1 g2 hg7b hg7lt
        go_wp2_with fail
        go_roundw
        case rel => exact ⟨k + 1, .slice (some ⟨g7, 0, none⟩) (k + 1 + 1) cap7, hlt', by go_num, HNX.out.1, HNX.out.2.1, (by unfold Hid; rw [HS1.out, HR1.out, hst.out, hsr.out]; exact HNX.out.2.2.1), HNX.out.2.2.2, (by unfold Hid; simpa using HS7.out)⟩
        case measure => simp [intOf]; omega
    · obtain rfl : k = n := by omega
      have t0 : decide (k < k) = false := decide_eq_false hlt'
      have g0 := hbx.out.1.cell 0
      have g1 := hbx.out.2.2.2.cell 0
      have g2 := hbx.out.2.2.2.frozen 0
      simp only [List.getElem?_toArray, List.getElem?_cons_zero] at g0 g1
      have hkn := own_far (p := ⟨w.heap.size + 1, 0, none⟩) hown.out (by simpa using hlt) v
      obtain ⟨A', c', rfl, _, _⟩ := own_form hkn
      have HKN := Lib.hid hkn
      clear hkn
      go_wp2_with fail
      have e0 := hbx.out.2.2.2.set_ 0 (.slice A' (k + 1) c')
      refine bodyPost_ret (results_cell1 rfl _ _ _ (w.heap.size + 1) (.agg #[.slice A' (k + 1) c']) rfl (load_line (t := 46) (by simpa using e0))) rfl ?_
      refine ⟨⟨_, rfl, A', c', by rw [hh.out, HLEN.out], ?_⟩, BW.out.setCell (p := ⟨w.heap.size + 1, 0, none⟩) (by simp) _⟩
      rw [hh.out]
      have hx := HKN.out
      exact Knots.own_slice (base := w1.heap.size) (e := 91) (c := c') (by rw [HLEN.out]; exact hx)

end Go.Proofs.Ytbbgbidpglhkfaa

/- The height to which cement rises: its plain meaning, and the walks of the program and of the document. (The joint seat.) -/
namespace Mpl
def cement (l : List Seg) (v : Int) : Rng × Int :=
  if checkHole l ≠ 0 then (⟨0, 0⟩, checkHole l) else if within v 0 (volumeOf l) then (At (heightOf l) v, 0) else (⟨0, 0⟩, 2)
theorem cement_good {l : List Seg} (g : GoodHole l) {v : Int} (h0 : 0 ≤ v) (h1 : v ≤ sizeUp l l.length) : cement l v = (At (heightOf l) v, 0) := by
  unfold cement
  rw [if_neg (by simp [(checkHole_iff l).2 g]), if_pos (by rw [volume_good g]; simp [within, h0, h1])]
theorem height_top {l : List Seg} (g : GoodHole l) : At (heightOf l) (sizeUp l l.length) = ⟨riseUp l l.length, riseUp l l.length⟩ := by
  rw [At, if_pos (height_right g), heightOf_good g]
  have h := value_knot (hk_good g) (i := l.length) (by rw [hk_len]; omega)
  rw [hk_get l _ _ (Nat.le_refl _)] at h
  exact h
end Mpl
namespace Go.Proofs.Ytbbgbidpglhkfaa
open Go.RowKit Go.Shelf Mpl

theorem run_eql_rngC (x0 x1 y0 y1 : Int) (w : World) : (binOp .eql 27 (.agg #[.int .i64 x0, .int .i64 x1]) (.agg #[.int .i64 y0, .int .i64 y1])).run Try.prog w = .ok (.bool (x0 == y0 && x1 == y1)) w := by
  have u3 := Try.underlying2
  have a3 := Try.isAgg2
  have z3 := Try.sizeOf2
  have hS : Try.prog.underlying 27 = some (.struct (Try.prog.fieldsOf 27)) := by kernel_rfl
  have hp : Try.prog.stoodInHeld 27 = false := by kernel_rfl
  rw [run_eql_struct, show (10000 : Nat) = 9999 + 1 from rfl, run_equalIn_agg w 9999 27 _ _ hS hp]
  simp only [Program.fieldsOf, Try.underlying27]
  go_simp
  by_cases h1 : x0 = y0 <;> by_cases h2 : x1 = y1 <;> simp [h1, h2]

theorem results_rngv {fn : Func} {p q : Tmp} (h : fn.results = #[.cell p 27, .tmp q]) (tmps : Array Value) (w : World) (g : Nat) (x y : Int) (v : Value)
    (hp : tmps.getD p undef = .pointer (some ⟨g, 0, none⟩)) (hq : tmps.getD q undef = v) (h1 : Box w g 27 #[.int .i64 x, .int .i64 y]) :
    (results fn tmps).run Try.prog w = .ok (.tuple #[.agg #[.int .i64 x, .int .i64 y], v]) w := by
  have q0 := h1.cell 0
  have q1 := h1.cell 1
  simp only [List.getElem?_toArray, List.getElem?_cons_zero, List.getElem?_cons_succ] at q0 q1
  simp only [results, h]
  rw [Array.getD_eq_getD_getElem?] at hp hq
  simp [Sem.run_bind, Result.andThen]
  rw [hp, hq]
  simp [go_sem, q0, q1]

set_option maxHeartbeats 2000000 in
theorem casing_Cement (v0 : Value) (l : List Seg) (v : Int) (w : World) (hv : HoleV w w.heap.size v0 l) (hin : SegsIn l) (hm : l.length ≤ maxLen) :
    Calls Try.prog 7 #[v0, .int .i64 v] w fun e w' => e = .returned (.tuple #[.agg #[.int .i64 (cement l v).1.Lo, .int .i64 (cement l v).1.Hi], .int .i64 (cement l v).2]) ∧ Below w.heap.size w w' := by
  have HV := Lib.hid hv
  obtain ⟨A, c, rfl, hS⟩ := hv
  have HC := Lib.hid (fun W (hW : Below w.heap.size w W) => fluid_CheckHole _ l W (HV.out.below hW) hin hm)
  have HVO := Lib.hid (fun W (hW : Below w.heap.size w W) => fluid_Volume _ l W (HV.out.below hW) hin hm)
  have HHE := Lib.hid (fun W (hW : Below w.heap.size w W) => fluid_Height _ l W (HV.out.below hW) hin hm)
  have HAT := Lib.hid (fun v0 W hv => earth_At (heightOf l) v0 v W hv)
  have hd : Hid (cement l v = if checkHole l ≠ 0 then (⟨0, 0⟩, checkHole l) else if within v 0 (volumeOf l) then (At (heightOf l) v, 0) else (⟨0, 0⟩, 2)) := rfl
  have HWI := Lib.hid (fun W => casing_within v 0 (volumeOf l) W)
  clear hS HV hin
  obtain ⟨w0, hw0⟩ : ∃ w0, (w.alloc (.cells #[.slice A l.length c] 24)).alloc (.cells #[.int .i64 0, .int .i64 0] 27) = w0 := ⟨_, rfl⟩
  have HB0 := Lib.hid (show Below w.heap.size w w0 by rw [← hw0]; exact (by repeat (first | exact Below.refl _ _ | assumption | refine Below.setCell ?_ (by first | (simp; done) | (simp; omega)) _ | refine belowDrewN ?_ _ | refine Below.drew ?_ | refine Below.alloc ?_ (by first | (simp; done) | (simp; omega)) _)))
  have B0 := Lib.hid (show Box w0 w.heap.size 24 #[.slice A l.length c] by rw [← hw0]; exact (Box.new w _ _ rfl).alloc _)
  have B1 := Lib.hid (show Box w0 (w.heap.size + 1) 27 #[.int .i64 0, .int .i64 0] by rw [← hw0]; exact Box.new _ _ _ (by simp))
  have HW0 := Lib.hid hw0
  have q0 := hole_box B0.out
  clear hw0
  generalize cement l v = res at *
  generalize heightOf l = ks at *
  generalize volumeOf l = vol at *
  generalize At ks v = av at *
  generalize checkHole l = ch at *
  generalize within v 0 vol = wi at *
  generalize l.length = n at *
  by_cases h0 : ch = 0
  case neg =>
    have hs : Hid (res = (⟨0, 0⟩, ch)) := by unfold Hid; rw [hd.out, if_pos h0]
    have hz : (ch != 0) = true := by simpa using h0
    clear hd h0 HVO HHE HAT HWI
    go_enter Try.func7, Try.ntmps7
    go_wp2_with fail
    rw [HW0.out]
    go_wp2_with fail
    refine (HC.out _ HB0.out).mono ?_
    rintro e w1 ⟨rfl, hb1⟩
    have C1 := Lib.hid (B1.out.under hb1)
    have HB1 := Lib.hid (HB0.out.trans (hb1.mono HB0.out.size))
    have f0 := C1.out.frozen 0
    have f1 := C1.out.frozen 1
    have x0 := (show w1.cell? ⟨w.heap.size + 1, 0, none⟩ = some (.int .i64 0) from C1.out.cell 0)
    have x1 := (show w1.cell? ⟨w.heap.size + 1, 1, none⟩ = some (.int .i64 0) from C1.out.cell 1)
    clear hb1 q0
    go_wp2_with fail
    exact bodyPost_ret (results_rngv rfl _ _ (w.heap.size + 1) 0 0 (.int .i64 ch) rfl rfl (by simpa using (C1.out.set_ 0 (.int .i64 0)).set_ 1 (.int .i64 0))) rfl ⟨by rw [hs.out], (HB1.out.setCell (p := ⟨w.heap.size + 1, 0, none⟩) (by simp) _).setCell (p := ⟨w.heap.size + 1, 1, none⟩) (by simp) _⟩
  rw [if_neg (by simpa using h0)] at hd
  subst h0
  cases wi
  · have hs : Hid (res = (⟨0, 0⟩, 2)) := by unfold Hid; rw [hd.out]; rfl
    clear hd HHE HAT
    go_enter Try.func7, Try.ntmps7
    go_wp2_with fail
    rw [HW0.out]
    go_wp2_with fail
    refine (HC.out _ HB0.out).mono ?_
    rintro e w1 ⟨rfl, hb1⟩
    have HB1 := Lib.hid (HB0.out.trans (hb1.mono HB0.out.size))
    have D1 := Lib.hid (B1.out.under hb1)
    clear q0
    have q0 := hole_box (B0.out.under hb1)
    clear hb1
    go_wp2_with fail
    refine (HVO.out _ HB1.out).mono ?_
    rintro e w2 ⟨rfl, hb2⟩
    have C1 := Lib.hid (D1.out.under hb2)
    have HB2 := Lib.hid (HB1.out.trans (hb2.mono HB1.out.size))
    clear hb2 q0
    go_wp2_with fail
    refine (HWI.out _).mono ?_
    rintro e w3 ⟨rfl, rfl⟩
    have f0 := C1.out.frozen 0
    have f1 := C1.out.frozen 1
    have x0 := (show w2.cell? ⟨w.heap.size + 1, 0, none⟩ = some (.int .i64 0) from C1.out.cell 0)
    have x1 := (show w2.cell? ⟨w.heap.size + 1, 1, none⟩ = some (.int .i64 0) from C1.out.cell 1)
    go_wp2_with fail
    exact bodyPost_ret (results_rngv rfl _ _ (w.heap.size + 1) 0 0 (.int .i64 2) rfl rfl (by simpa using (C1.out.set_ 0 (.int .i64 0)).set_ 1 (.int .i64 0))) rfl ⟨by rw [hs.out], (HB2.out.setCell (p := ⟨w.heap.size + 1, 0, none⟩) (by simp) _).setCell (p := ⟨w.heap.size + 1, 1, none⟩) (by simp) _⟩
  · have hs : Hid (res = (av, 0)) := by unfold Hid; rw [hd.out]; rfl
    clear hd
    go_enter Try.func7, Try.ntmps7
    go_wp2_with fail
    rw [HW0.out]
    go_wp2_with fail
    refine (HC.out _ HB0.out).mono ?_
    rintro e w1 ⟨rfl, hb1⟩
    have HB1 := Lib.hid (HB0.out.trans (hb1.mono HB0.out.size))
    have D1 := Lib.hid (B1.out.under hb1)
    have E1 := Lib.hid (B0.out.under hb1)
    clear q0
    have q0 := hole_box E1.out
    clear hb1
    go_wp2_with fail
    refine (HVO.out _ HB1.out).mono ?_
    rintro e w2 ⟨rfl, hb2⟩
    have D2 := Lib.hid (D1.out.under hb2)
    have HB2 := Lib.hid (HB1.out.trans (hb2.mono HB1.out.size))
    clear q0
    have q0 := hole_box (E1.out.under hb2)
    clear hb2
    go_wp2_with fail
    refine (HWI.out _).mono ?_
    rintro e w3 ⟨rfl, rfl⟩
    go_wp2_with fail
    refine (HHE.out _ HB2.out).mono ?_
    rintro e w3 ⟨⟨vl, rfl, hvl⟩, hb3⟩
    have HVL := Lib.hid hvl
    have D3 := Lib.hid (D2.out.under hb3)
    have HB3 := Lib.hid (HB2.out.trans (hb3.mono HB2.out.size))
    clear hb3 hvl q0
    go_wp2_with fail
    refine (HAT.out vl _ HVL.out).mono ?_
    rintro e w4 ⟨rfl, hb4⟩
    have C1 := Lib.hid (D3.out.under hb4)
    have HB4 := Lib.hid (HB3.out.trans (hb4.mono HB3.out.size))
    have f0 := C1.out.frozen 0
    have f1 := C1.out.frozen 1
    have x0 := (show w4.cell? ⟨w.heap.size + 1, 0, none⟩ = some (.int .i64 0) from C1.out.cell 0)
    have x1 := (show w4.cell? ⟨w.heap.size + 1, 1, none⟩ = some (.int .i64 0) from C1.out.cell 1)
    clear hb4
    go_wp2_with fail
    exact bodyPost_ret (results_rngv rfl _ _ (w.heap.size + 1) av.Lo av.Hi (.int .i64 0) rfl rfl (by simpa using (C1.out.set_ 0 (.int .i64 av.Lo)).set_ 1 (.int .i64 av.Hi))) rfl ⟨by rw [hs.out], (HB4.out.setCell (p := ⟨w.heap.size + 1, 0, none⟩) (by simp) _).setCell (p := ⟨w.heap.size + 1, 1, none⟩) (by simp) _⟩

set_option maxHeartbeats 2000000 in
theorem ref05_Cement (v0 : Value) (l : List Seg) (v : Int) (w : World) (hv : HoleV w w.heap.size v0 l) :
    Calls Try.prog 8 #[v0, .int .i64 v] w fun e w' => e = .returned (.tuple #[.agg #[.int .i64 (cement l v).1.Lo, .int .i64 (cement l v).1.Hi], .int .i64 (cement l v).2]) ∧ Below w.heap.size w w' := by
  have HV := Lib.hid hv
  obtain ⟨A, c, rfl, hS⟩ := hv
  have HC := Lib.hid (fun W (hW : Below w.heap.size w W) => ref03_CheckHole _ l W (HV.out.below hW))
  have HVO := Lib.hid (fun W (hW : Below w.heap.size w W) => ref03_Volume _ l W (HV.out.below hW))
  have HHE := Lib.hid (fun W (hW : Below w.heap.size w W) => ref03_Height _ l W (HV.out.below hW))
  have HAT := Lib.hid (fun v0 W hv => ref02_At (heightOf l) v0 v W hv)
  have hd : Hid (cement l v = if checkHole l ≠ 0 then (⟨0, 0⟩, checkHole l) else if within v 0 (volumeOf l) then (At (heightOf l) v, 0) else (⟨0, 0⟩, 2)) := rfl
  clear hS HV
  obtain ⟨w0, hw0⟩ : ∃ w0, (w.alloc (.cells #[.slice A l.length c] 24)).alloc (.cells #[.int .i64 0, .int .i64 0] 27) = w0 := ⟨_, rfl⟩
  have HB0 := Lib.hid (show Below w.heap.size w w0 by rw [← hw0]; exact (by repeat (first | exact Below.refl _ _ | assumption | refine Below.setCell ?_ (by first | (simp; done) | (simp; omega)) _ | refine belowDrewN ?_ _ | refine Below.drew ?_ | refine Below.alloc ?_ (by first | (simp; done) | (simp; omega)) _)))
  have B0 := Lib.hid (show Box w0 w.heap.size 24 #[.slice A l.length c] by rw [← hw0]; exact (Box.new w _ _ rfl).alloc _)
  have B1 := Lib.hid (show Box w0 (w.heap.size + 1) 27 #[.int .i64 0, .int .i64 0] by rw [← hw0]; exact Box.new _ _ _ (by simp))
  have HW0 := Lib.hid hw0
  have q0 := hole_box B0.out
  clear hw0
  generalize cement l v = res at *
  generalize heightOf l = ks at *
  generalize volumeOf l = vol at *
  generalize At ks v = av at *
  generalize checkHole l = ch at *
  generalize l.length = n at *
  by_cases h0 : ch = 0
  case neg =>
    have hs : Hid (res = (⟨0, 0⟩, ch)) := by unfold Hid; rw [hd.out, if_pos h0]
    have hz : (ch != 0) = true := by simpa using h0
    clear hd h0 HVO HHE HAT
    go_enter Try.func8, Try.ntmps8
    go_wp2_with fail
    rw [HW0.out]
    go_wp2_with fail
    refine (HC.out _ HB0.out).mono ?_
    rintro e w1 ⟨rfl, hb1⟩
    have C1 := Lib.hid (B1.out.under hb1)
    have HB1 := Lib.hid (HB0.out.trans (hb1.mono HB0.out.size))
    have f0 := C1.out.frozen 0
    have f1 := C1.out.frozen 1
    have x0 := (show w1.cell? ⟨w.heap.size + 1, 0, none⟩ = some (.int .i64 0) from C1.out.cell 0)
    have x1 := (show w1.cell? ⟨w.heap.size + 1, 1, none⟩ = some (.int .i64 0) from C1.out.cell 1)
    clear hb1 q0
    go_wp2_with fail
    exact bodyPost_ret (results_rngv rfl _ _ (w.heap.size + 1) 0 0 (.int .i64 ch) rfl rfl (by simpa using (C1.out.set_ 0 (.int .i64 0)).set_ 1 (.int .i64 0))) rfl ⟨by rw [hs.out], (HB1.out.setCell (p := ⟨w.heap.size + 1, 0, none⟩) (by simp) _).setCell (p := ⟨w.heap.size + 1, 1, none⟩) (by simp) _⟩
  rw [if_neg (by simpa using h0)] at hd
  subst h0
  by_cases hv0 : 0 ≤ v
  case neg =>
    have t0 : decide (v < 0) = true := decide_eq_true (by omega)
    have hs : Hid (res = (⟨0, 0⟩, 2)) := by unfold Hid; rw [hd.out, if_neg]; simp [within]; omega
    clear hd HVO HHE HAT
    go_enter Try.func8, Try.ntmps8
    go_wp2_with fail
    rw [HW0.out]
    go_wp2_with fail
    refine (HC.out _ HB0.out).mono ?_
    rintro e w1 ⟨rfl, hb1⟩
    have C1 := Lib.hid (B1.out.under hb1)
    have HB1 := Lib.hid (HB0.out.trans (hb1.mono HB0.out.size))
    have f0 := C1.out.frozen 0
    have f1 := C1.out.frozen 1
    have x0 := (show w1.cell? ⟨w.heap.size + 1, 0, none⟩ = some (.int .i64 0) from C1.out.cell 0)
    have x1 := (show w1.cell? ⟨w.heap.size + 1, 1, none⟩ = some (.int .i64 0) from C1.out.cell 1)
    clear hb1 q0
    go_wp2_with fail
    exact bodyPost_ret (results_rngv rfl _ _ (w.heap.size + 1) 0 0 (.int .i64 2) rfl rfl (by simpa using (C1.out.set_ 0 (.int .i64 0)).set_ 1 (.int .i64 0))) rfl ⟨by rw [hs.out], (HB1.out.setCell (p := ⟨w.heap.size + 1, 0, none⟩) (by simp) _).setCell (p := ⟨w.heap.size + 1, 1, none⟩) (by simp) _⟩
  have t0 : decide (v < 0) = false := decide_eq_false (by omega)
  by_cases hv1 : v ≤ vol
  case neg =>
    have t1 : decide (vol < v) = true := decide_eq_true (by omega)
    have hs : Hid (res = (⟨0, 0⟩, 2)) := by unfold Hid; rw [hd.out, if_neg]; simp [within]; omega
    clear hd HHE HAT
    go_enter Try.func8, Try.ntmps8
    go_wp2_with fail
    rw [HW0.out]
    go_wp2_with fail
    refine (HC.out _ HB0.out).mono ?_
    rintro e w1 ⟨rfl, hb1⟩
    have HB1 := Lib.hid (HB0.out.trans (hb1.mono HB0.out.size))
    have D1 := Lib.hid (B1.out.under hb1)
    clear q0
    have q0 := hole_box (B0.out.under hb1)
    clear hb1
    go_wp2_with fail
    refine (HVO.out _ HB1.out).mono ?_
    rintro e w2 ⟨rfl, hb2⟩
    have C1 := Lib.hid (D1.out.under hb2)
    have HB2 := Lib.hid (HB1.out.trans (hb2.mono HB1.out.size))
    clear hb2 q0
    have f0 := C1.out.frozen 0
    have f1 := C1.out.frozen 1
    have x0 := (show w2.cell? ⟨w.heap.size + 1, 0, none⟩ = some (.int .i64 0) from C1.out.cell 0)
    have x1 := (show w2.cell? ⟨w.heap.size + 1, 1, none⟩ = some (.int .i64 0) from C1.out.cell 1)
    go_wp2_with fail
    exact bodyPost_ret (results_rngv rfl _ _ (w.heap.size + 1) 0 0 (.int .i64 2) rfl rfl (by simpa using (C1.out.set_ 0 (.int .i64 0)).set_ 1 (.int .i64 0))) rfl ⟨by rw [hs.out], (HB2.out.setCell (p := ⟨w.heap.size + 1, 0, none⟩) (by simp) _).setCell (p := ⟨w.heap.size + 1, 1, none⟩) (by simp) _⟩
  have t1 : decide (vol < v) = false := decide_eq_false (by omega)
  have hs : Hid (res = (av, 0)) := by unfold Hid; rw [hd.out, if_pos]; simp [within]; omega
  clear hd
  go_enter Try.func8, Try.ntmps8
  go_wp2_with fail
  rw [HW0.out]
  go_wp2_with fail
  refine (HC.out _ HB0.out).mono ?_
  rintro e w1 ⟨rfl, hb1⟩
  have HB1 := Lib.hid (HB0.out.trans (hb1.mono HB0.out.size))
  have D1 := Lib.hid (B1.out.under hb1)
  have E1 := Lib.hid (B0.out.under hb1)
  clear q0
  have q0 := hole_box E1.out
  clear hb1
  go_wp2_with fail
  refine (HVO.out _ HB1.out).mono ?_
  rintro e w2 ⟨rfl, hb2⟩
  have D2 := Lib.hid (D1.out.under hb2)
  have HB2 := Lib.hid (HB1.out.trans (hb2.mono HB1.out.size))
  clear q0
  have q0 := hole_box (E1.out.under hb2)
  clear hb2
  go_wp2_with fail
  refine (HHE.out _ HB2.out).mono ?_
  rintro e w3 ⟨⟨vl, rfl, hvl⟩, hb3⟩
  have HVL := Lib.hid hvl
  have D3 := Lib.hid (D2.out.under hb3)
  have HB3 := Lib.hid (HB2.out.trans (hb3.mono HB2.out.size))
  clear hb3 hvl q0
  go_wp2_with fail
  refine (HAT.out vl _ HVL.out).mono ?_
  rintro e w4 ⟨rfl, hb4⟩
  have C1 := Lib.hid (D3.out.under hb4)
  have HB4 := Lib.hid (HB3.out.trans (hb4.mono HB3.out.size))
  have f0 := C1.out.frozen 0
  have f1 := C1.out.frozen 1
  have x0 := (show w4.cell? ⟨w.heap.size + 1, 0, none⟩ = some (.int .i64 0) from C1.out.cell 0)
  have x1 := (show w4.cell? ⟨w.heap.size + 1, 1, none⟩ = some (.int .i64 0) from C1.out.cell 1)
  clear hb4
  go_wp2_with fail
  exact bodyPost_ret (results_rngv rfl _ _ (w.heap.size + 1) av.Lo av.Hi (.int .i64 0) rfl rfl (by simpa using (C1.out.set_ 0 (.int .i64 av.Lo)).set_ 1 (.int .i64 av.Hi))) rfl ⟨by rw [hs.out], (HB4.out.setCell (p := ⟨w.heap.size + 1, 0, none⟩) (by simp) _).setCell (p := ⟨w.heap.size + 1, 1, none⟩) (by simp) _⟩

end Go.Proofs.Ytbbgbidpglhkfaa

/- Holes made of numbers: what a valid one is in numbers of 64 bits. (The joint seat.) -/
namespace Mpl
theorem GoodHole.in_ {h : List Seg} (g : GoodHole h) : Go.Proofs.Ytbbgbidpglhkfaa.SegsIn h := fun i => by
  unfold Go.Proofs.Ytbbgbidpglhkfaa.SegIn Go.Proofs.Ytbbgbidpglhkfaa.inI64
  rcases Nat.lt_or_ge i h.length with hi | hi
  · obtain ⟨a, b, c, d, e, f, k⟩ := g.fair i hi
    have := (g.seg hi).1
    omega
  · have : sg h i = ⟨0, 0, 0, 0⟩ := by simp [sg, hi]
    rw [this]
    simp
end Mpl
namespace Go.Proofs.Ytbbgbidpglhkfaa
open Go.RowKit Go.Shelf Mpl
theorem own_cap {w : World} {base : Nat} {e : TypeId} {size : Nat} {A : Option Addr} {n c : Nat} {xs : List Value} (h : w.ownsRow base e size (.slice A n c) n xs) : n ≤ c ∧ c ≤ maxLen := by
  rcases h.2 with ⟨h1, h2⟩ | ⟨g, cap, cur, h1, _, _, h3, h4, _⟩
  · injection h1 with _ _ h1
    subst h1
    unfold maxLen
    omega
  · injection h1 with _ _ h1
    subst h1
    exact ⟨h3, h4⟩

/-- a hole of the call's own, as a value -/
theorem own_hole {w : World} {base : Nat} {A : Option Addr} {c : Nat} {h : List Seg} (ho : w.ownsRow base 37 4 (.slice A h.length c) h.length (h.flatMap segC)) : HoleV w w.heap.size (.agg #[.slice A h.length c]) h := by
  obtain ⟨A', c', hv, _, hs⟩ := Segs.own ho
  injection hv with h1 _ h2
  subst h1 h2
  exact ⟨A, c, rfl, hs⟩
end Go.Proofs.Ytbbgbidpglhkfaa

/- Arguments opened: gases, muds, segments, slugs, columns, holes. -/
namespace Go.Proofs.Ytbbgbidpglhkfaa
open Go.ChangeShapes Go.WideShapes Go.ChangeAt Go.RowKit Go.Deep Mpl

section
variable {H : Type} {enc : TypeId × Value → H} {w : World} {base : Nat} {spare : Nat → Bool} {held : Bool}

theorem two_cells {l : List Value} {a b : Value} (h2 : l.length = 2) (e0 : l[0]? = some a) (e1 : l[1]? = some b) : Value.agg ⟨l⟩ = .agg #[a, b] := by
  match l, h2 with
  | [x0, x1], _ =>
    simp at e0 e1
    rw [e0, e1]
theorem four_cells {l : List Value} {a b c d : Value} (h2 : l.length = 4) (e0 : l[0]? = some a) (e1 : l[1]? = some b) (e2 : l[2]? = some c) (e3 : l[3]? = some d) : Value.agg ⟨l⟩ = .agg #[a, b, c, d] := by
  match l, h2 with
  | [x0, x1, x2, x3], _ =>
    simp at e0 e1 e2 e3
    rw [e0, e1, e2, e3]

def GasNum (g : Gas) : Prop := inI64 g.K ∧ inI64 g.Power
def MudNum (g : Mud) : Prop := inI64 g.Yield ∧ inI64 g.Visc
theorem open_seg {v : Value} {d : DataW H} {p : List MemPlace} (hv : ∃ cs, v = .agg cs ∧ cs.size = Try.prog.cellsOf 37) (h : DataW.Trod enc Try.prog w base spare held 37 v d p) :
    ∃ g : Seg, v = segV g ∧ SegIn g := by
  obtain ⟨cs, rfl, hsz⟩ := hv
  have h2 : cs.size = 4 := hsz.trans (by kernel_rfl)
  obtain ⟨fuel, hf⟩ := h
  obtain ⟨l⟩ := cs
  have hf' : DataW.trod enc Try.prog w base spare held fuel 37 l = some (d, p) := by simpa [Value.cells] using hf
  obtain ⟨n0, e0, i0⟩ := field_i64 Try.underlying37 hf' 0 _ rfl Try.underlying2 (by kernel_rfl)
  obtain ⟨n1, e1, i1⟩ := field_i64 Try.underlying37 hf' 1 _ rfl Try.underlying2 (by kernel_rfl)
  obtain ⟨n2, e2, i2⟩ := field_i64 Try.underlying37 hf' 2 _ rfl Try.underlying2 (by kernel_rfl)
  obtain ⟨n3, e3, i3⟩ := field_i64 Try.underlying37 hf' 3 _ rfl Try.underlying2 (by kernel_rfl)
  exact ⟨⟨n0, n1, n2, n3⟩, four_cells (by simpa using h2) e0 e1 e2 e3, i0, i1, i2, i3⟩

theorem open_segs {fuel : Nat} {v : Value} {x : DataW H × List MemPlace} (h : DataW.trod enc Try.prog w base spare held fuel 22 [v] = some x) :
    ∃ A c l, v = .slice A l.length c ∧ l.length ≤ c ∧ c ≤ maxLen ∧ Segs w w.heap.size A l ∧ SegsIn l := by
  obtain ⟨A, n, c, hv, hnc, hcm, hs⟩ := slice_cells Try.underlying22 (k := 4) (by kernel_rfl) (by omega) h
  have hx : ∀ i, i < n → ∃ t : Seg, SegIn t ∧ ∀ b off, A = some ⟨b, off, none⟩ → b < w.heap.size ∧ w.cell? ⟨b, off + i * 4, none⟩ = some (.int .i64 t.Long) ∧ w.cell? ⟨b, off + i * 4 + 1, none⟩ = some (.int .i64 t.Rise) ∧
      w.cell? ⟨b, off + i * 4 + 2, none⟩ = some (.int .i64 t.Area) ∧ w.cell? ⟨b, off + i * 4 + 3, none⟩ = some (.int .i64 t.Gap) := fun i hi => by
    obtain ⟨b, off, rfl, hb, m, hm⟩ := hs (by omega)
    obtain ⟨cs, y, hl, hc, hr⟩ := hm i hi
    obtain ⟨n0, e0, i0⟩ := field_i64 Try.underlying37 hr 0 _ rfl Try.underlying2 (by kernel_rfl)
    obtain ⟨n1, e1, i1⟩ := field_i64 Try.underlying37 hr 1 _ rfl Try.underlying2 (by kernel_rfl)
    obtain ⟨n2, e2, i2⟩ := field_i64 Try.underlying37 hr 2 _ rfl Try.underlying2 (by kernel_rfl)
    obtain ⟨n3, e3, i3⟩ := field_i64 Try.underlying37 hr 3 _ rfl Try.underlying2 (by kernel_rfl)
    refine ⟨⟨n0, n1, n2, n3⟩, ⟨i0, i1, i2, i3⟩, fun b' off' he => ?_⟩
    simp at he
    obtain ⟨rfl, rfl⟩ := he
    exact ⟨hb, (hc 0 (by omega)).trans e0, (hc 1 (by omega)).trans e1, (hc 2 (by omega)).trans e2, (hc 3 (by omega)).trans e3⟩
  haveI : Inhabited Seg := ⟨⟨0, 0, 0, 0⟩⟩
  obtain ⟨f, hf⟩ := choose_lt (α := Seg) hx
  have hts : ∀ i, i < n → sg ((List.range n).map f) i = f i := fun i hi => by simp [sg, hi]
  refine ⟨A, c, (List.range n).map f, by simpa using hv, by simpa using hnc, hcm, fun h0 => ?_, fun i => ?_⟩
  · have h0' : 0 < n := by simpa using h0
    obtain ⟨b, off, rfl, hb, _⟩ := hs h0'
    refine ⟨b, off, rfl, hb, fun i hi => ?_⟩
    have hi' : i < n := by simpa using hi
    rw [hts i hi']
    exact ((hf i hi').2 b off rfl).2
  · rcases Nat.lt_or_ge i n with hi | hi
    · rw [hts i hi]; exact (hf i hi).1
    · have : sg ((List.range n).map f) i = ⟨0, 0, 0, 0⟩ := by simp [sg, hi]
      rw [this]
      unfold SegIn inI64
      simp

theorem open_hole {v : Value} {d : DataW H} {p : List MemPlace} (hv : ∃ cs, v = .agg cs ∧ cs.size = Try.prog.cellsOf 24) (h : DataW.Trod enc Try.prog w base spare held 24 v d p) :
    ∃ l, HoleV w w.heap.size v l ∧ SegsIn l ∧ l.length ≤ maxLen := by
  obtain ⟨cs, rfl, hsz⟩ := hv
  have h2 : cs.size = 1 := hsz.trans (by kernel_rfl)
  obtain ⟨fuel, hf⟩ := h
  obtain ⟨l⟩ := cs
  have hf' : DataW.trod enc Try.prog w base spare held fuel 24 l = some (d, p) := by simpa [Value.cells] using hf
  obtain ⟨v0, m0, y0, hv0, hr0⟩ := field_one Try.underlying24 hf' 0 _ rfl (by kernel_rfl) (by simp at h2; simp [h2])
  obtain ⟨A, c, s, rfl, hnc, hcm, hk, hi⟩ := open_segs hr0
  refine ⟨s, ⟨A, c, ?_, hk⟩, hi, by omega⟩
  match l, h2 with
  | [x0], _ =>
    simp at hv0
    rw [hv0]
end

end Go.Proofs.Ytbbgbidpglhkfaa
