/- A region that draws its order, with a store in its midst and one at its end: what holds before the store need not hold behind it. -/
import Derived.Test.YtnhnheigdlnokaaHeld2
namespace Go.Proofs.Ytnhnheigdlnokaa
open Go.RowKit

section
variable {P : Program} {ops : Array Oper} {Q : Exit → Act → World → Prop} {md : Region.Mode} {q : Nat} {S : Bool → World → Prop} {Z : Nat → Bool}

/-- any order from here on; S, told whether q is done, holds behind each operation but those of Z -/
def AnyMid (P : Program) (md : Region.Mode) (ops : Array Oper) (Q : Exit → Act → World → Prop) (q : Nat) (S : Bool → World → Prop) (Z : Nat → Bool) : Nat → Array Bool → Act → World → Prop
  | 0, b, a, w => Region.ready md ops b = [] ∧ Q .normal a w
  | m + 1, b, a, w => (Region.ready md ops b = [] → Q .normal a w) ∧ ∀ i ∈ Region.ready md ops b, wpOp P ops Q i (fun a' w' => (Z i = false → S ((b.setIfInBounds i true).getD q true) w') ∧ AnyMid P md ops Q q S Z m (b.setIfInBounds i true) a' w') a w

theorem AnyMid.any : ∀ {m : Nat} {b : Array Bool} {a : Act} {w : World}, AnyMid P md ops Q q S Z m b a w → wpAny P md ops Q m b a w
  | 0, _, _, _, h => h
  | _ + 1, _, _, _, h => ⟨h.1, fun i hi => wpOp_mono (fun _ _ k => AnyMid.any k.2) (h.2 i hi)⟩

theorem AnyMid.begin {id : Nat} {a : Act} {w : World} (hm : P.follows .mixedOrders = true) (h : AnyMid P .any ops Q q S Z ops.size (Array.replicate ops.size false) a w.drew) : (Code.region id ops true).wp P Q a w :=
  wp_region_any hm h.any

theorem AnyMid.first {T : World → Prop} {i : Nat} {o : Oper} {v : Value} (ho : ops[i]? = some o) (hs : ∀ (j : Nat) (o : Oper) cs d, ops[j]? = some o → o.op ≠ .select cs d) (hQ : ∀ c a w, Q (.panic c) (a.put o.dst v) w → Q (.panic c) a w) {nf : Nat} (hw : ∀ z, Z z = true → waitsN md ops nf z i = true) (hiq : i ≠ q)
    (h0 : ∀ w, S false w → T w) (h1 : waitsN md ops nf q i = true ∨ ∀ w, S true w → T w) :
    ∀ (m : Nat) (b : Array Bool) (a : Act) (w : World), Closed md ops b → (∀ j oj, ops[j]? = some oj → j ≠ i → b.getD j true = false → (∀ e ∈ oj.after, Region.binds md e = true → e.on ≠ i) → o.apart ops oj = true) →
      i ∈ Region.ready md ops b → YieldsIf P ops T o v a → S (b.getD q true) w → AnyMid P md ops Q q S Z m (b.setIfInBounds i true) (a.put o.dst v) w → AnyMid P md ops Q q S Z (m + 1) b a w
  | m, b, a, w, hc, hf, hr, hy, hS, H => by
    refine ⟨fun h => (by rw [h] at hr; cases hr), fun j hj => ?_⟩
    have hib : b.getD i true = false := (mem_ready.1 hr).1
    have hT : T w := by
      cases e : b.getD q true with
      | false => rw [e] at hS; exact h0 _ hS
      | true =>
        rcases h1 with h1 | h1
        · rw [done_waits hc nf _ _ e h1] at hib; cases hib
        · rw [e] at hS; exact h1 _ hS
    by_cases hji : j = i
    · subst hji
      refine hy.wpOp ho hT ⟨fun _ => ?_, H⟩
      rw [getD_set_ne true hiq]
      exact hS
    · have hjr := ready_mono hj hji
      have hjz : Z j = false := by
        cases e : Z j with
        | false => rfl
        | true => rw [ready_waits hc nf hj (hw j e)] at hib; cases hib
      cases m with
      | zero => rw [H.1] at hjr; cases hjr
      | succ m =>
        obtain ⟨hjb, oj, hoj, hall⟩ := mem_ready.1 hj
        have hno : ∀ e ∈ oj.after, Region.binds md e = true → e.on ≠ i := fun e he hb heq => by
          have h1 := hall e he hb
          rw [heq] at h1
          rcases Nat.lt_or_ge i b.size with hl | hl
          · simp [hl] at h1 hib
            rw [h1] at hib
            cases hib
          · simp [Array.getElem?_eq_none hl] at hib
        have hput := wpOp_putIf hoj (hf j oj hoj hji hjb hno) (fun cs d => hs i o cs d ho) (fun cs d => hs j oj cs d hoj) hQ hy (H.2 j hjr)
        have hk : ∀ w', S (((b.setIfInBounds i true).setIfInBounds j true).getD q true) w' → S ((b.setIfInBounds j true).getD q true) w' := fun w' h => by
          rw [Array.setIfInBounds_comm _ _ (Ne.symm hji), getD_set_ne true hiq] at h
          exact h
        refine wpOp_mono (fun a' w' k => ⟨fun _ => hk _ (k.2.1 hjz), AnyMid.first ho hs hQ hw hiq h0 h1 m _ a' w' (hc.set hj) (fun l ol hl hli hlb hn => hf l ol hl hli ?_ hn) (ready_mono hr (Ne.symm hji)) k.1 (hk _ (k.2.1 hjz)) ?_⟩) hput
        · by_cases hjl : j = l
          · subst hjl; exact hjb
          · rwa [getD_set_ne true hjl] at hlb
        · rw [Array.setIfInBounds_comm _ _ hji]
          exact k.2.2

/-- number i, for which q and the last ones wait: what it reads stands before q -/
theorem AnyMid.take (T : World → Prop) {i : Nat} {o : Oper} {v : Value} {m : Nat} {b : Array Bool} {a : Act} {w : World} (zs : List Nat) (nf : Nat) (hz : ∀ z, Z z = true → z ∈ zs) (h0 : ∀ w, S false w → T w) (h1 : waitsN md ops nf q i = true ∨ ∀ w, S true w → T w) (hS : S (b.getD q true) w) (ho : ops[i]? = some o)
    (hk : (Region.noSelect ops && Region.free md ops b i && (Region.ready md ops b).contains i && zs.all (fun z => waitsN md ops nf z i) && closedB md ops b && !(i == q)) = true)
    (hQ : ∀ c a w, Q (.panic c) (a.put o.dst v) w → Q (.panic c) a w) (hy : YieldsIf P ops T o v a) (h : AnyMid P md ops Q q S Z m (b.setIfInBounds i true) (a.put o.dst v) w) : AnyMid P md ops Q q S Z (m + 1) b a w := by
  simp only [Bool.and_eq_true] at hk
  obtain ⟨⟨⟨⟨⟨k1, k2⟩, k3⟩, k4⟩, k5⟩, k6⟩ := hk
  exact AnyMid.first ho (Region.noSelect_spec k1) hQ (fun z h => List.all_eq_true.1 k4 z (hz z h)) (by simpa using k6) h0 h1 m b a w (closed_of k5) (Region.free_spec ho k2) (by simpa using k3) hy hS h

theorem AnyMid.done {b : Array Bool} {a : Act} {w : World} (hr : Region.ready md ops b = []) (h : Q .normal a w) : ∀ {m : Nat}, AnyMid P md ops Q q S Z m b a w
  | 0 => ⟨hr, h⟩
  | _ + 1 => ⟨fun _ => h, by rw [hr]; simp⟩
/-- just one operation may come up -/
theorem AnyMid.only {i : Nat} {o : Oper} {m : Nat} {b : Array Bool} {a : Act} {w : World} (hr : Region.ready md ops b = [i]) (ho : ops[i]? = some o) (hg : o.guard = none)
    (h : ∀ K : Act → World → Prop, (∀ a' w', (Z i = false → S ((b.setIfInBounds i true).getD q true) w') → AnyMid P md ops Q q S Z m (b.setIfInBounds i true) a' w' → K a' w') → o.wp P a w K Q) : AnyMid P md ops Q q S Z (m + 1) b a w :=
  ⟨fun h0 => (by rw [hr] at h0; cases h0), fun j hj => by
    rw [hr, List.mem_singleton] at hj
    subst hj
    unfold wpOp
    simp only [ho]
    rw [if_pos (by simp [Region.wanted, hg])]
    exact .inl (h _ fun a' w' h1 h2 => ⟨h1, h2⟩)⟩
end

end Go.Proofs.Ytnhnheigdlnokaa
