/- A region that draws its order, whose last operations write what the region reads: what holds between the operations need not hold behind those. -/
import Derived.Test.YtnhnheigdlnokaaHeld
namespace Go.Proofs.Ytnhnheigdlnokaa
open Go.RowKit

section
variable {P : Program} {ops : Array Oper} {Q : Exit → Act → World → Prop} {md : Region.Mode} {S : World → Prop} {Z : Nat → Bool}

/-- any order from here on; S holds behind each operation but those of Z -/
def AnyLate (P : Program) (md : Region.Mode) (ops : Array Oper) (Q : Exit → Act → World → Prop) (S : World → Prop) (Z : Nat → Bool) : Nat → Array Bool → Act → World → Prop
  | 0, b, a, w => Region.ready md ops b = [] ∧ Q .normal a w
  | m + 1, b, a, w => (Region.ready md ops b = [] → Q .normal a w) ∧ ∀ i ∈ Region.ready md ops b, wpOp P ops Q i (fun a' w' => (Z i = false → S w') ∧ AnyLate P md ops Q S Z m (b.setIfInBounds i true) a' w') a w

theorem AnyLate.any : ∀ {m : Nat} {b : Array Bool} {a : Act} {w : World}, AnyLate P md ops Q S Z m b a w → wpAny P md ops Q m b a w
  | 0, _, _, _, h => h
  | _ + 1, _, _, _, h => ⟨h.1, fun i hi => wpOp_mono (fun _ _ k => AnyLate.any k.2) (h.2 i hi)⟩

theorem AnyLate.begin {id : Nat} {a : Act} {w : World} (hm : P.follows .mixedOrders = true) (h : AnyLate P .any ops Q S Z ops.size (Array.replicate ops.size false) a w.drew) : (Code.region id ops true).wp P Q a w :=
  wp_region_any hm h.any

/-- what is done has all done that it waits for -/
def Closed (md : Region.Mode) (ops : Array Oper) (b : Array Bool) : Prop := ∀ j o, ops[j]? = some o → b.getD j true = true → ∀ e ∈ o.after, Region.binds md e = true → b.getD e.on true = true
def closedB (md : Region.Mode) (ops : Array Oper) (b : Array Bool) : Bool := (List.range ops.size).all fun j => match ops[j]? with | some o => !(b.getD j true) || o.after.all (fun e => !(Region.binds md e) || b.getD e.on true) | none => true
theorem closed_of {b : Array Bool} (h : closedB md ops b = true) : Closed md ops b := fun j o ho hj e he hb => by
  unfold closedB at h
  rw [List.all_eq_true] at h
  have hlt : j < ops.size := (Array.getElem?_eq_some_iff.1 ho).1
  have := h j (List.mem_range.2 hlt)
  simp only [ho, hj, Bool.not_true, Bool.false_or, Array.all_eq_true'] at this
  have h2 := this e he
  rw [hb] at h2
  simpa using h2
theorem ready_after {b : Array Bool} {z : Nat} (hz : z ∈ Region.ready md ops b) : ∃ o, ops[z]? = some o ∧ ∀ e ∈ o.after, Region.binds md e = true → b.getD e.on true = true := by
  obtain ⟨_, o, ho, hall⟩ := mem_ready.1 hz
  refine ⟨o, ho, fun e he hb => ?_⟩
  have := hall e he hb
  rcases Nat.lt_or_ge e.on b.size with hl | hl
  · simp [hl] at this ⊢
    exact this
  · simp [hl]
theorem Closed.set {b : Array Bool} {j : Nat} (h : Closed md ops b) (hj : j ∈ Region.ready md ops b) : Closed md ops (b.setIfInBounds j true) := fun i o ho hi e he hb => by
  have up : ∀ k, b.getD k true = true → (b.setIfInBounds j true).getD k true = true := fun k hk => by
    by_cases hjk : j = k
    · subst hjk
      rcases Nat.lt_or_ge j b.size with hl | hl
      · simp [hl]
      · simp [hl]
    · rwa [getD_set_ne true hjk]
  by_cases hij : j = i
  · subst hij
    obtain ⟨o', ho', h2⟩ := ready_after hj
    rw [ho] at ho'
    injection ho' with ho'
    subst ho'
    exact up _ (h2 e he hb)
  · rw [getD_set_ne true hij] at hi
    exact up _ (h i o ho hi e he hb)
/-- number z waits for number i, by n others at most -/
def waitsN (md : Region.Mode) (ops : Array Oper) : Nat → Nat → Nat → Bool
  | 0, z, i => match ops[z]? with | some o => o.after.any (fun e => Region.binds md e && e.on == i) | none => false
  | n + 1, z, i => match ops[z]? with | some o => o.after.any (fun e => Region.binds md e && (e.on == i || waitsN md ops n e.on i)) | none => false
theorem done_waits {b : Array Bool} (hc : Closed md ops b) (n : Nat) : ∀ z i, b.getD z true = true → waitsN md ops n z i = true → b.getD i true = true := by
  induction n with
  | zero =>
    intro z i hz h
    unfold waitsN at h
    cases ho : ops[z]? with
    | none => simp [ho] at h
    | some o =>
      simp only [ho, Array.any_eq_true'] at h
      obtain ⟨e, he, h⟩ := h
      simp only [Bool.and_eq_true, beq_iff_eq] at h
      rw [← h.2]
      exact hc z o ho hz e he h.1
  | succ n ih =>
    intro z i hz h
    unfold waitsN at h
    cases ho : ops[z]? with
    | none => simp [ho] at h
    | some o =>
      simp only [ho, Array.any_eq_true'] at h
      obtain ⟨e, he, h⟩ := h
      simp only [Bool.and_eq_true, Bool.or_eq_true, beq_iff_eq] at h
      have hd := hc z o ho hz e he h.1
      rcases h.2 with h2 | h2
      · rw [← h2]; exact hd
      · exact ih _ _ hd h2
theorem ready_waits {b : Array Bool} (hc : Closed md ops b) (n : Nat) {z i : Nat} (hz : z ∈ Region.ready md ops b) (h : waitsN md ops n z i = true) : b.getD i true = true := by
  obtain ⟨o, ho, ha⟩ := ready_after hz
  cases n with
  | zero =>
    unfold waitsN at h
    simp only [ho, Array.any_eq_true'] at h
    obtain ⟨e, he, h⟩ := h
    simp only [Bool.and_eq_true, beq_iff_eq] at h
    rw [← h.2]
    exact ha e he h.1
  | succ n =>
    unfold waitsN at h
    simp only [ho, Array.any_eq_true'] at h
    obtain ⟨e, he, h⟩ := h
    simp only [Bool.and_eq_true, Bool.or_eq_true, beq_iff_eq] at h
    rcases h.2 with h2 | h2
    · rw [← h2]; exact ha e he h.1
    · exact done_waits hc n _ _ (ha e he h.1) h2

theorem AnyLate.first {i : Nat} {o : Oper} {v : Value} (ho : ops[i]? = some o) (hs : ∀ (j : Nat) (o : Oper) cs d, ops[j]? = some o → o.op ≠ .select cs d) (hQ : ∀ c a w, Q (.panic c) (a.put o.dst v) w → Q (.panic c) a w) {nf : Nat} (hw : ∀ z, Z z = true → waitsN md ops nf z i = true) :
    ∀ (m : Nat) (b : Array Bool) (a : Act) (w : World), Closed md ops b → (∀ j oj, ops[j]? = some oj → j ≠ i → b.getD j true = false → (∀ e ∈ oj.after, Region.binds md e = true → e.on ≠ i) → o.apart ops oj = true) →
      i ∈ Region.ready md ops b → YieldsIf P ops S o v a → S w → AnyLate P md ops Q S Z m (b.setIfInBounds i true) (a.put o.dst v) w → AnyLate P md ops Q S Z (m + 1) b a w
  | m, b, a, w, hc, hf, hr, hy, hS, H => by
    refine ⟨fun h => (by rw [h] at hr; cases hr), fun j hj => ?_⟩
    have hib : b.getD i true = false := (mem_ready.1 hr).1
    by_cases hji : j = i
    · subst hji
      exact hy.wpOp ho hS ⟨fun _ => hS, H⟩
    · have hjr := ready_mono hj hji
      have hjz : Z j = false := by
        cases e : Z j with
        | false => rfl
        | true => rw [ready_waits hc nf hj (hw j e)] at hib; cases hib
      cases m with
      | zero => rw [H.1] at hjr; cases hjr
      | succ m =>
        obtain ⟨hjb, oj, hoj, hall⟩ := mem_ready.1 hj
        have hno : ∀ e ∈ oj.after, Region.binds md e = true → e.on ≠ i := fun e he hb heq => by
          have h1 := hall e he hb
          rw [heq] at h1
          rcases Nat.lt_or_ge i b.size with hl | hl
          · simp [hl] at h1 hib
            rw [h1] at hib
            cases hib
          · simp [Array.getElem?_eq_none hl] at hib
        have hput := wpOp_putIf hoj (hf j oj hoj hji hjb hno) (fun cs d => hs i o cs d ho) (fun cs d => hs j oj cs d hoj) hQ hy (H.2 j hjr)
        refine wpOp_mono (fun a' w' k => ⟨fun _ => k.2.1 hjz, AnyLate.first ho hs hQ hw m _ a' w' (hc.set hj) (fun l ol hl hli hlb hn => hf l ol hl hli ?_ hn) (ready_mono hr (Ne.symm hji)) k.1 (k.2.1 hjz) ?_⟩) hput
        · by_cases hjl : j = l
          · subst hjl; exact hjb
          · rwa [getD_set_ne true hjl] at hlb
        · rw [Array.setIfInBounds_comm _ _ hji]
          exact k.2.2

theorem AnyLate.take {i : Nat} {o : Oper} {v : Value} {m : Nat} {b : Array Bool} {a : Act} {w : World} (zs : List Nat) (nf : Nat) (hz : ∀ z, Z z = true → z ∈ zs) (ho : ops[i]? = some o) (hs : Region.noSelect ops = true) (hf : Region.free md ops b i = true) (hr : (Region.ready md ops b).contains i = true) (hw : zs.all (fun z => waitsN md ops nf z i) = true) (hc : closedB md ops b = true)
    (hQ : ∀ c a w, Q (.panic c) (a.put o.dst v) w → Q (.panic c) a w) (hS : S w) (hy : YieldsIf P ops S o v a) (h : AnyLate P md ops Q S Z m (b.setIfInBounds i true) (a.put o.dst v) w) : AnyLate P md ops Q S Z (m + 1) b a w :=
  AnyLate.first ho (Region.noSelect_spec hs) hQ (fun z h => List.all_eq_true.1 hw z (hz z h)) m b a w (closed_of hc) (Region.free_spec ho hf) (by simpa using hr) hy hS h

theorem AnyLate.done {b : Array Bool} {a : Act} {w : World} (hr : Region.ready md ops b = []) (h : Q .normal a w) : ∀ {m : Nat}, AnyLate P md ops Q S Z m b a w
  | 0 => ⟨hr, h⟩
  | _ + 1 => ⟨fun _ => h, by rw [hr]; simp⟩
/-- just one operation may come up, one of Z -/
theorem AnyLate.only {i : Nat} {o : Oper} {m : Nat} {b : Array Bool} {a : Act} {w : World} (hr : Region.ready md ops b = [i]) (ho : ops[i]? = some o) (hg : o.guard = none) (hZ : Z i = true)
    (h : ∀ K : Act → World → Prop, (∀ a' w', AnyLate P md ops Q S Z m (b.setIfInBounds i true) a' w' → K a' w') → o.wp P a w K Q) : AnyLate P md ops Q S Z (m + 1) b a w :=
  ⟨fun h0 => (by rw [hr] at h0; cases h0), fun j hj => by
    rw [hr, List.mem_singleton] at hj
    subst hj
    unfold wpOp
    simp only [ho]
    rw [if_pos (by simp [Region.wanted, hg])]
    exact .inl (h _ fun a' w' h1 => ⟨fun e => (by rw [hZ] at e; cases e), h1⟩)⟩
/-- one of two operations may come up, both of Z -/
theorem AnyLate.pair {i j : Nat} {o o' : Oper} {m : Nat} {b : Array Bool} {a : Act} {w : World} (hr : Region.ready md ops b = [i, j]) (ho : ops[i]? = some o) (hg : o.guard = none) (hZ : Z i = true) (ho' : ops[j]? = some o') (hg' : o'.guard = none) (hZ' : Z j = true)
    (h : ∀ K : Act → World → Prop, (∀ a' w', AnyLate P md ops Q S Z m (b.setIfInBounds i true) a' w' → K a' w') → o.wp P a w K Q) (h' : ∀ K : Act → World → Prop, (∀ a' w', AnyLate P md ops Q S Z m (b.setIfInBounds j true) a' w' → K a' w') → o'.wp P a w K Q) : AnyLate P md ops Q S Z (m + 1) b a w :=
  ⟨fun h0 => (by rw [hr] at h0; cases h0), fun l hl => by
    rw [hr] at hl
    simp only [List.mem_cons, List.not_mem_nil, or_false] at hl
    rcases hl with rfl | rfl
    · unfold wpOp
      simp only [ho]
      rw [if_pos (by simp [Region.wanted, hg])]
      exact .inl (h _ fun a' w' h1 => ⟨fun e => (by rw [hZ] at e; cases e), h1⟩)
    · unfold wpOp
      simp only [ho']
      rw [if_pos (by simp [Region.wanted, hg'])]
      exact .inl (h' _ fun a' w' h1 => ⟨fun e => (by rw [hZ'] at e; cases e), h1⟩)⟩
end

end Go.Proofs.Ytnhnheigdlnokaa
