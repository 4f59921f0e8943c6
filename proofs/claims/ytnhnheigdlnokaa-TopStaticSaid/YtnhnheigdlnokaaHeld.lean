/- A region that draws its order, whose last operation writes what the region reads: what holds between the operations need not hold behind that one. -/
import Derived.Test.YtnhnheigdlnokaaBase
import Derived.OrdersHeld
import Derived.Deep.RegionHeld3
namespace Go.Proofs.Ytnhnheigdlnokaa
open Go.RowKit

section
variable {P : Program} {ops : Array Oper} {Q : Exit → Act → World → Prop} {md : Region.Mode} {S : World → Prop} {z : Nat}

/-- any order from here on; S holds behind each operation but number z -/
def AnyBut (P : Program) (md : Region.Mode) (ops : Array Oper) (Q : Exit → Act → World → Prop) (S : World → Prop) (z : Nat) : Nat → Array Bool → Act → World → Prop
  | 0, b, a, w => Region.ready md ops b = [] ∧ Q .normal a w
  | m + 1, b, a, w => (Region.ready md ops b = [] → Q .normal a w) ∧ ∀ i ∈ Region.ready md ops b, wpOp P ops Q i (fun a' w' => (i ≠ z → S w') ∧ AnyBut P md ops Q S z m (b.setIfInBounds i true) a' w') a w

theorem AnyBut.any : ∀ {m : Nat} {b : Array Bool} {a : Act} {w : World}, AnyBut P md ops Q S z m b a w → wpAny P md ops Q m b a w
  | 0, _, _, _, h => h
  | _ + 1, _, _, _, h => ⟨h.1, fun i hi => wpOp_mono (fun _ _ k => AnyBut.any k.2) (h.2 i hi)⟩

theorem AnyBut.begin {id : Nat} {a : Act} {w : World} (hm : P.follows .mixedOrders = true) (h : AnyBut P .any ops Q S z ops.size (Array.replicate ops.size false) a w.drew) : (Code.region id ops true).wp P Q a w :=
  wp_region_any hm h.any

/-- number z waits for number i -/
def waits (md : Region.Mode) (ops : Array Oper) (z i : Nat) : Bool := match ops[z]? with | some o => o.after.any fun e => Region.binds md e && e.on == i | none => true

theorem waits_spec {i : Nat} {b : Array Bool} (h : waits md ops z i = true) (hz : z ∈ Region.ready md ops b) (hi : b.getD i true = false) : False := by
  obtain ⟨_, o, ho, hall⟩ := mem_ready.1 hz
  simp only [waits, ho, Array.any_eq_true'] at h
  obtain ⟨e, he, hb⟩ := h
  simp only [Bool.and_eq_true, beq_iff_eq] at hb
  have h1 := hall e he hb.1
  rw [hb.2] at h1
  rcases Nat.lt_or_ge i b.size with hl | hl
  · simp [hl] at h1 hi
    rw [h1] at hi
    cases hi
  · simp [Array.getElem?_eq_none hl] at hi

/-- number i, which yields v wherever S holds, may come first -/
theorem AnyBut.first {i : Nat} {o : Oper} {v : Value} (ho : ops[i]? = some o) (hs : ∀ (j : Nat) (o : Oper) cs d, ops[j]? = some o → o.op ≠ .select cs d) (hQ : ∀ c a w, Q (.panic c) (a.put o.dst v) w → Q (.panic c) a w) (hw : waits md ops z i = true) :
    ∀ (m : Nat) (b : Array Bool) (a : Act) (w : World), (∀ j oj, ops[j]? = some oj → j ≠ i → b.getD j true = false → (∀ e ∈ oj.after, Region.binds md e = true → e.on ≠ i) → o.apart ops oj = true) →
      i ∈ Region.ready md ops b → YieldsIf P ops S o v a → S w → AnyBut P md ops Q S z m (b.setIfInBounds i true) (a.put o.dst v) w → AnyBut P md ops Q S z (m + 1) b a w
  | m, b, a, w, hf, hr, hy, hS, H => by
    refine ⟨fun h => (by rw [h] at hr; cases hr), fun j hj => ?_⟩
    have hib : b.getD i true = false := (mem_ready.1 hr).1
    by_cases hji : j = i
    · subst hji
      exact hy.wpOp ho hS ⟨fun _ => hS, H⟩
    · have hjr := ready_mono hj hji
      have hjz : j ≠ z := fun e => by subst e; exact waits_spec hw hj hib
      cases m with
      | zero => rw [H.1] at hjr; cases hjr
      | succ m =>
        obtain ⟨hjb, oj, hoj, hall⟩ := mem_ready.1 hj
        have hno : ∀ e ∈ oj.after, Region.binds md e = true → e.on ≠ i := fun e he hb heq => by
          have h1 := hall e he hb
          rw [heq] at h1
          rcases Nat.lt_or_ge i b.size with hl | hl
          · simp [hl] at h1 hib
            rw [h1] at hib
            cases hib
          · simp [Array.getElem?_eq_none hl] at hib
        have hput := wpOp_putIf hoj (hf j oj hoj hji hjb hno) (fun cs d => hs i o cs d ho) (fun cs d => hs j oj cs d hoj) hQ hy (H.2 j hjr)
        refine wpOp_mono (fun a' w' k => ⟨fun _ => k.2.1 hjz, AnyBut.first ho hs hQ hw m _ a' w' (fun l ol hl hli hlb hn => hf l ol hl hli ?_ hn) (ready_mono hr (Ne.symm hji)) k.1 (k.2.1 hjz) ?_⟩) hput
        · by_cases hjl : j = l
          · subst hjl; exact hjb
          · rwa [getD_set_ne true hjl] at hlb
        · rw [Array.setIfInBounds_comm _ _ hji]
          exact k.2.2

theorem AnyBut.take {i : Nat} {o : Oper} {v : Value} {m : Nat} {b : Array Bool} {a : Act} {w : World} (ho : ops[i]? = some o) (hs : Region.noSelect ops = true) (hf : Region.free md ops b i = true) (hr : (Region.ready md ops b).contains i = true) (hw : waits md ops z i = true)
    (hQ : ∀ c a w, Q (.panic c) (a.put o.dst v) w → Q (.panic c) a w) (hS : S w) (hy : YieldsIf P ops S o v a) (h : AnyBut P md ops Q S z m (b.setIfInBounds i true) (a.put o.dst v) w) : AnyBut P md ops Q S z (m + 1) b a w :=
  AnyBut.first ho (Region.noSelect_spec hs) hQ hw m b a w (Region.free_spec ho hf) (by simpa using hr) hy hS h

/-- just one operation may come up -/
theorem AnyBut.only {i : Nat} {o : Oper} {m : Nat} {b : Array Bool} {a : Act} {w : World} (hr : Region.ready md ops b = [i]) (ho : ops[i]? = some o) (hg : o.guard = none)
    (h : ∀ K : Act → World → Prop, (∀ a' w', (i ≠ z → S w') → AnyBut P md ops Q S z m (b.setIfInBounds i true) a' w' → K a' w') → o.wp P a w K Q) : AnyBut P md ops Q S z (m + 1) b a w :=
  ⟨fun h0 => (by rw [hr] at h0; cases h0), fun j hj => by
    rw [hr, List.mem_singleton] at hj
    subst hj
    unfold wpOp
    simp only [ho]
    rw [if_pos (by simp [Region.wanted, hg])]
    exact .inl (h _ fun a' w' h1 h2 => ⟨h1, h2⟩)⟩

theorem AnyBut.done {b : Array Bool} {a : Act} {w : World} (hr : Region.ready md ops b = []) (h : Q .normal a w) : ∀ {m : Nat}, AnyBut P md ops Q S z m b a w
  | 0 => ⟨hr, h⟩
  | _ + 1 => ⟨fun _ => h, by rw [hr]; simp⟩
theorem AnyBut.gate {m : Nat} {b : Array Bool} {a : Act} {w : World} (h : AnyBut P md ops Q S z m b a w) : AnyBut P md ops Q S z m b a w := h
end

end Go.Proofs.Ytnhnheigdlnokaa
