/- The statement FluidPumpsSaid: for every input the law FluidPumps returns true, and its arguments read behind the call as before. No condition. -/
import Derived.Test.YtgcfplkfclapiaaPackPumps
import Derived.Test.YtgcfplkfclapiaaOpen
import Derived.Test.YtgcfplkfclapiaaFOpen
namespace Go.Proofs.Ytgcfplkfclapiaa
open Go.ChangeShapes Go.WideShapes Go.ChangeAt Go.RowKit Mpl
set_option linter.unusedVariables false

set_option maxRecDepth 100000 in
theorem fluidPumps_lifted (os : Os) (started : os.Started) (H : Type) (enc : TypeId × Value → H) :
    ReturnsInHanded {} Try.checked os 15 .any (Rows.fluidPumpsSpec.pre6 enc Try.prog Try.f15 Rows.fluidPumpsRow.domain false) (Rows.fluidPumpsSpec.post enc Try.prog Try.f15 false true false false) := by
  refine returnsInHanded_of_change (C := Try.checked) own started (by kernel_rfl) Try.func15
    (ChangeSpec.witness6 (enc := enc) (C := Try.checked) false ⟨#[], #[.agg #[.slice none 0 0], .slice none 0 0, .agg #[.int .i64 0, .int .i64 0]], []⟩ 8 (by kernel_rfl) (by kernel_rfl) (by kernel_rfl) (by kernel_rfl)) ?_
  intro W base args ds gs before hval0 hW hcnd _
  have hval : ∀ (j : Nat) t v, Try.f15.params[j]? = some t → args[j]? = some v → Value.okWide Try.prog W .any base t v := hval0
  have hW' := hW
  obtain ⟨p, q, hA0, hV, rfl, hfz, hnd⟩ := hW
  have hA : DataW.TrodAll enc Try.prog W 0 (fun _ => true) true Try.f15.params.toList args.toList ds p := hA0
  rw [Try.params15] at hA hval
  obtain ⟨v0, vs0, d0, ds0, p0, q0, hargs, rfl, rfl, h0, r0⟩ := trodAll_cons hA
  obtain ⟨v1, vs1, d1, ds1, p1, q1, rfl, rfl, rfl, h1, r1⟩ := trodAll_cons r0
  obtain ⟨v2, vs2, d2, ds2, p2, q2, rfl, rfl, rfl, h2, r2⟩ := trodAll_cons r1
  obtain ⟨rfl, rfl, rfl⟩ := trodAll_nil r2
  obtain rfl : args = #[v0, v1, v2] := by cases args; simp_all
  obtain ⟨rfl, rfl⟩ := trodVars_none hV
  have k0 := h0
  have lt0 : ∀ x ∈ p0, x.block < W.heap.size := by obtain ⟨m, hm⟩ := k0; exact DataW.trod_lt m _ _ _ hm
  obtain ⟨j0, hj0, hin0, hm0⟩ := open_hole (okWide_struct Try.underlying25 (hval 0 25 v0 rfl rfl)) h0
  have k1 := h1
  have lt1 : ∀ x ∈ p1, x.block < W.heap.size := by obtain ⟨m, hm⟩ := k1; exact DataW.trod_lt m _ _ _ hm
  obtain ⟨A1, n1, c1, es1⟩ := okWide_slice Try.underlying30 (hval 1 30 v1 rfl rfl)
  subst es1
  obtain ⟨fu1, hf1⟩ := h1
  obtain ⟨A1', c1', l1, ev1, hnc1, hcm1, hT1, hin1⟩ := open_slugs (by simpa [Value.cells] using hf1)
  rw [ev1]
  have k2 := h2
  have lt2 : ∀ x ∈ p2, x.block < W.heap.size := by obtain ⟨m, hm⟩ := k2; exact DataW.trod_lt m _ _ _ hm
  obtain ⟨j2, e2, hin2⟩ := open_slug (okWide_struct Try.underlying39 (hval 2 39 v2 rfl rfl)) h2
  subst e2
  clear hA0 hval0
  refine (walk_FluidPumps j0 v0 l1 A1' c1' j2 W hj0 hin0 hm0 hT1 hin1 hnc1 hcm1 hin2).mono fun e W' ⟨he, bel⟩ => ?_
  subst he
  rw [← ev1]
  exact ⟨_, rfl, _, _, _, [], _, [], hW', trodAll_mk1 (shut_bool Try.underlying4 _), (trodAll_cons_mk (Below.trod laidOut (by kernel_rfl) (of_decide_eq_true (by kernel_rfl)) k0 bel lt0) (trodAll_cons_mk (Below.trod laidOut (by kernel_rfl) (of_decide_eq_true (by kernel_rfl)) k1 bel lt1) (trodAll_cons_mk (Below.trod laidOut (by kernel_rfl) (of_decide_eq_true (by kernel_rfl)) k2 bel lt2) trodAll_mk0))), rfl, bel.frame _, fun h => by cases h⟩

/-- the statement -/
theorem fluidPumps_holds : Rows.FluidPumpsSaid :=
  OpenClaim.holds_of_wide 15 Try.f15 rfl rfl rfl rfl rfl rfl rfl ⟨rfl, rfl, rfl, rfl, rfl⟩ rfl rfl rfl rfl rfl (by kernel_rfl) Try.func15 (by kernel_rfl)
    (of_decide_eq_true (by kernel_rfl)) (by unfold Func.isWrapper; first | (rw [if_pos (by decide +kernel)]; kernel_rfl) | (rw [if_neg (by decide +kernel)]; exact ⟨rfl, rfl⟩))
    (fun os started H enc _ => fluidPumps_lifted os started H enc)
#print axioms fluidPumps_holds
end Go.Proofs.Ytgcfplkfclapiaa
