/- A region that draws its order, in a round of a range over a function: walked as outside of a round. -/
import Derived.Test.YtgcfplkfclapiaaHeld3
import Derived.Test.YtgcfplkfclapiaaInv
import Derived.Test.YtgcfplkfclapiaaIter2
namespace Go.Proofs.Ytgcfplkfclapiaa
open Go.RowKit

/-- Q, but never outgrown -/
def noOut (Q : Exit → Act → World → Prop) : Exit → Act → World → Prop := fun e a w => e ≠ .outgrown ∧ Q e a w
theorem noOut_lets {Q : Exit → Act → World → Prop} : ¬ LetsOut (noOut Q) := fun ⟨_, _, h⟩ => h.1 rfl

section
variable {P : Program} {ops : Array Oper} {Q : Exit → Act → World → Prop} {md : Region.Mode} {n L : Nat}

theorem wpIn_of_wp {o : Oper} {a : Act} {w : World} {K : Act → World → Prop} (hd : ∀ c, o.op ≠ .defer c) (h : o.wp P a w K (noOut Q)) : o.wpIn Fence.wide n P a w K Q := by
  unfold Oper.wp at h
  unfold Oper.wpIn
  refine ⟨fun _ _ => trivial, ?_⟩
  rw [Oper.semAt_eq _ _ _ hd]
  generalize (execOp a.eval o).run P w = r at *
  cases r with
  | ok x w' =>
    cases x <;> simp only [Oper.upon] at h <;> simp only [Oper.uponIn]
    case enter f args =>
      refine ⟨(fun h => by cases h), callsIn_wide.2 (h.mono fun e w'' he => ?_)⟩
      cases e with
      | returned v => exact he
      | panicked c => exact he.2
      | outgrown => exact absurd he noOut_lets
    case row row args => exact ⟨(fun h => by cases h), fun c cs _ => let ⟨v, w2, r, s⟩ := h c cs; ⟨v, w2, r, stepsIn_wide.2 s⟩⟩
    all_goals exact h
  | halt x w' =>
    cases x <;> simp only [Oper.upon] at h <;> simp only [Oper.uponIn]
    all_goals exact h.2

theorem wpAnyIn_of_any (hd : noDefer ops = true) : ∀ {m : Nat} {b : Array Bool} {a : Act} {w : World}, wpAny P md ops (noOut Q) m b a w → wpAnyIn Fence.wide n P md ops Q m b a w
  | 0, _, _, _, h => ⟨h.1, h.2.2⟩
  | m + 1, b, a, w, h => ⟨fun hr => (h.1 hr).2, fun i hi => by
    have hh := h.2 i hi
    unfold wpOp at hh
    unfold wpOpIn
    cases ho : ops[i]? with
    | none => simp only [ho] at hh ⊢; exact wpAnyIn_of_any hd hh
    | some o =>
      simp only [ho] at hh ⊢
      split
      · rename_i hw
        simp only [hw, if_true] at hh
        rcases hh with hh | hh
        · exact wpIn_of_wp (noDefer_spec hd ho) (Oper.wp_mono (fun _ _ k => wpAnyIn_of_any hd k) hh)
        · exact absurd hh.2 noOut_lets
      · rename_i hw
        simp only [hw] at hh
        exact ⟨fun _ _ => trivial, wpAnyIn_of_any hd hh⟩⟩

theorem region_round {id : Nat} {a : Act} {w : World} (hm : P.follows .mixedOrders = true) (hd : noDefer ops = true) (h : wpAny P .any ops (noOut Q) ops.size (Array.replicate ops.size false) a w.drew) : (Code.region id ops true).wpIn (Fence.wide.inRound L) n P Q a w :=
  wpIn_region_any hm (wpAnyIn_round hd _ _ _ _ (wpAnyIn_of_any hd h))
end
end Go.Proofs.Ytgcfplkfclapiaa
