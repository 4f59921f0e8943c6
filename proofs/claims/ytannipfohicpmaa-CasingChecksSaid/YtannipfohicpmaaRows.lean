/-
  No cell of these rows narrows 'for every input' (looked for: loops, veiled, ifaces, maps, wideKeys, modest, calm, conditions, laid).
  DERIVED. THE GIVEN ROWS OF THIS SEAT. 10 by the template 'for every input the law returns true; each argument reads behind the call as it read before'; 0 by the template 'total and deterministic' (their statements: YtannipfohicpmaaTotals.lean).
  GIVEN WITH THE SEED: the statements are not yours to turn. If you find one false, say at which input.
  Laid BY PROGRAM, IN A SANDBOX (cutbox-rows.mjs): the forced cells as the released guide's own fill.sh prints them over the translation 9384939d5c7f9fdf… (all of the seat's roots in one cut). By AI agents, Wed Nov 11 2026. No macro, syntax, notation, axiom, sorry.
-/
import Derived.Test.YtannipfohicpmaaChecked
import GoSem.Claim
import GoSem.ClaimJoined
import GoSem.ClaimMapViews
import Derived.JoinedTies
import Derived.KernelRfl
namespace Go.Proofs.Ytannipfohicpmaa
/- THE CELL 'sum', in the pinned program and in every row, IS THE sha256 OF THE DUMP (.gsa) THAT YtannipfohicpmaaProg.lean LOADS. Nothing in Lean hashes anything: it is a label: what it is worth is what the hold of that sum in a sandbox is worth. -/
noncomputable def Try.pinned : Pinned := { name := "ytannipfohicpmaa", sum := "9384939d5c7f9fdf8d421116166671600d99fb49e09ac0b2f6b1353be2f60158", checked := Try.checked }
namespace Rows
def none {H : Type} : Left H := { results := [], args := [] }

/-- 'moonpoollaw05.CasingLoads': WHATEVER THE INPUT: true; the input reads as it did. -/
def casingLoadsSpec : ChangeSpec := { name := "casingLoads", fn := fun _ => fun
  | [d1, d2, d3, d4, d5] => { results := [.lit (.bool true)], args := [d1, d2, d3, d4, d5] }
  | _ => none }
def casingLoadsRow : OpenClaim := { program := "ytannipfohicpmaa", sum := "9384939d5c7f9fdf8d421116166671600d99fb49e09ac0b2f6b1353be2f60158", func := "moonpool/moonpoollaw05.CasingLoads", spec := "casingLoads", unfollowed := true, recurses := true, apart := false }
def CasingLoadsSaid : Prop := casingLoadsRow.holds Try.pinned (OpenSpec.ofChange casingLoadsSpec)

/-- ITS FALSE NEIGHBOUR: 'it returns false'. Refute it at one input. -/
def casingLoadsWrong : ChangeSpec := { name := "casingLoads", fn := fun _ => fun
  | [d1, d2, d3, d4, d5] => { results := [.lit (.bool false)], args := [d1, d2, d3, d4, d5] }
  | _ => none }
def CasingLoadsWrongFalsely : Prop := casingLoadsRow.holds Try.pinned (OpenSpec.ofChange casingLoadsWrong)

/-- 'moonpoollaw05.CasingBears': WHATEVER THE INPUT: true; the input reads as it did. -/
def casingBearsSpec : ChangeSpec := { name := "casingBears", fn := fun _ => fun
  | [d1, d2] => { results := [.lit (.bool true)], args := [d1, d2] }
  | _ => none }
def casingBearsRow : OpenClaim := { program := "ytannipfohicpmaa", sum := "9384939d5c7f9fdf8d421116166671600d99fb49e09ac0b2f6b1353be2f60158", func := "moonpool/moonpoollaw05.CasingBears", spec := "casingBears", unfollowed := true, recurses := true, apart := false }
def CasingBearsSaid : Prop := casingBearsRow.holds Try.pinned (OpenSpec.ofChange casingBearsSpec)

/-- ITS FALSE NEIGHBOUR: 'it returns false'. Refute it at one input. -/
def casingBearsWrong : ChangeSpec := { name := "casingBears", fn := fun _ => fun
  | [d1, d2] => { results := [.lit (.bool false)], args := [d1, d2] }
  | _ => none }
def CasingBearsWrongFalsely : Prop := casingBearsRow.holds Try.pinned (OpenSpec.ofChange casingBearsWrong)

/-- 'moonpoollaw05.CasingPulls': WHATEVER THE INPUT: true; the input reads as it did. -/
def casingPullsSpec : ChangeSpec := { name := "casingPulls", fn := fun _ => fun
  | [d1, d2] => { results := [.lit (.bool true)], args := [d1, d2] }
  | _ => none }
def casingPullsRow : OpenClaim := { program := "ytannipfohicpmaa", sum := "9384939d5c7f9fdf8d421116166671600d99fb49e09ac0b2f6b1353be2f60158", func := "moonpool/moonpoollaw05.CasingPulls", spec := "casingPulls", unfollowed := true, recurses := true, apart := false }
def CasingPullsSaid : Prop := casingPullsRow.holds Try.pinned (OpenSpec.ofChange casingPullsSpec)

/-- ITS FALSE NEIGHBOUR: 'it returns false'. Refute it at one input. -/
def casingPullsWrong : ChangeSpec := { name := "casingPulls", fn := fun _ => fun
  | [d1, d2] => { results := [.lit (.bool false)], args := [d1, d2] }
  | _ => none }
def CasingPullsWrongFalsely : Prop := casingPullsRow.holds Try.pinned (OpenSpec.ofChange casingPullsWrong)

/-- 'moonpoollaw05.CasingProves': WHATEVER THE INPUT: true; the input reads as it did. -/
def casingProvesSpec : ChangeSpec := { name := "casingProves", fn := fun _ => fun
  | [d1, d2, d3, d4] => { results := [.lit (.bool true)], args := [d1, d2, d3, d4] }
  | _ => none }
def casingProvesRow : OpenClaim := { program := "ytannipfohicpmaa", sum := "9384939d5c7f9fdf8d421116166671600d99fb49e09ac0b2f6b1353be2f60158", func := "moonpool/moonpoollaw05.CasingProves", spec := "casingProves", unfollowed := true, recurses := true, apart := false }
def CasingProvesSaid : Prop := casingProvesRow.holds Try.pinned (OpenSpec.ofChange casingProvesSpec)

/-- ITS FALSE NEIGHBOUR: 'it returns false'. Refute it at one input. -/
def casingProvesWrong : ChangeSpec := { name := "casingProves", fn := fun _ => fun
  | [d1, d2, d3, d4] => { results := [.lit (.bool false)], args := [d1, d2, d3, d4] }
  | _ => none }
def CasingProvesWrongFalsely : Prop := casingProvesRow.holds Try.pinned (OpenSpec.ofChange casingProvesWrong)

/-- 'moonpoollaw05.CasingOnce': WHATEVER THE INPUT: true; the input reads as it did. -/
def casingOnceSpec : ChangeSpec := { name := "casingOnce", fn := fun _ => fun
  | [d1, d2, d3, d4, d5, d6] => { results := [.lit (.bool true)], args := [d1, d2, d3, d4, d5, d6] }
  | _ => none }
def casingOnceRow : OpenClaim := { program := "ytannipfohicpmaa", sum := "9384939d5c7f9fdf8d421116166671600d99fb49e09ac0b2f6b1353be2f60158", func := "moonpool/moonpoollaw05.CasingOnce", spec := "casingOnce", unfollowed := true, recurses := true, apart := false }
def CasingOnceSaid : Prop := casingOnceRow.holds Try.pinned (OpenSpec.ofChange casingOnceSpec)

/-- ITS FALSE NEIGHBOUR: 'it returns false'. Refute it at one input. -/
def casingOnceWrong : ChangeSpec := { name := "casingOnce", fn := fun _ => fun
  | [d1, d2, d3, d4, d5, d6] => { results := [.lit (.bool false)], args := [d1, d2, d3, d4, d5, d6] }
  | _ => none }
def CasingOnceWrongFalsely : Prop := casingOnceRow.holds Try.pinned (OpenSpec.ofChange casingOnceWrong)

/-- 'moonpoollaw05.CasingChooses': WHATEVER THE INPUT: true; the input reads as it did. -/
def casingChoosesSpec : ChangeSpec := { name := "casingChooses", fn := fun _ => fun
  | [d] => { results := [.lit (.bool true)], args := [d] }
  | _ => none }
def casingChoosesRow : OpenClaim := { program := "ytannipfohicpmaa", sum := "9384939d5c7f9fdf8d421116166671600d99fb49e09ac0b2f6b1353be2f60158", func := "moonpool/moonpoollaw05.CasingChooses", spec := "casingChooses", unfollowed := true, recurses := true, apart := false }
def CasingChoosesSaid : Prop := casingChoosesRow.holds Try.pinned (OpenSpec.ofChange casingChoosesSpec)

/-- ITS FALSE NEIGHBOUR: 'it returns false'. Refute it at one input. -/
def casingChoosesWrong : ChangeSpec := { name := "casingChooses", fn := fun _ => fun
  | [d] => { results := [.lit (.bool false)], args := [d] }
  | _ => none }
def CasingChoosesWrongFalsely : Prop := casingChoosesRow.holds Try.pinned (OpenSpec.ofChange casingChoosesWrong)

/-- 'moonpoollaw05.CasingBest': WHATEVER THE INPUT: true; the input reads as it did. -/
def casingBestSpec : ChangeSpec := { name := "casingBest", fn := fun _ => fun
  | [d1, d2] => { results := [.lit (.bool true)], args := [d1, d2] }
  | _ => none }
def casingBestRow : OpenClaim := { program := "ytannipfohicpmaa", sum := "9384939d5c7f9fdf8d421116166671600d99fb49e09ac0b2f6b1353be2f60158", func := "moonpool/moonpoollaw05.CasingBest", spec := "casingBest", unfollowed := true, recurses := true, apart := false }
def CasingBestSaid : Prop := casingBestRow.holds Try.pinned (OpenSpec.ofChange casingBestSpec)

/-- ITS FALSE NEIGHBOUR: 'it returns false'. Refute it at one input. -/
def casingBestWrong : ChangeSpec := { name := "casingBest", fn := fun _ => fun
  | [d1, d2] => { results := [.lit (.bool false)], args := [d1, d2] }
  | _ => none }
def CasingBestWrongFalsely : Prop := casingBestRow.holds Try.pinned (OpenSpec.ofChange casingBestWrong)

/-- 'moonpoollaw05.CasingMore': WHATEVER THE INPUT: true; the input reads as it did. -/
def casingMoreSpec : ChangeSpec := { name := "casingMore", fn := fun _ => fun
  | [d1, d2, d3, d4] => { results := [.lit (.bool true)], args := [d1, d2, d3, d4] }
  | _ => none }
def casingMoreRow : OpenClaim := { program := "ytannipfohicpmaa", sum := "9384939d5c7f9fdf8d421116166671600d99fb49e09ac0b2f6b1353be2f60158", func := "moonpool/moonpoollaw05.CasingMore", spec := "casingMore", unfollowed := true, recurses := true, apart := false }
def CasingMoreSaid : Prop := casingMoreRow.holds Try.pinned (OpenSpec.ofChange casingMoreSpec)

/-- ITS FALSE NEIGHBOUR: 'it returns false'. Refute it at one input. -/
def casingMoreWrong : ChangeSpec := { name := "casingMore", fn := fun _ => fun
  | [d1, d2, d3, d4] => { results := [.lit (.bool false)], args := [d1, d2, d3, d4] }
  | _ => none }
def CasingMoreWrongFalsely : Prop := casingMoreRow.holds Try.pinned (OpenSpec.ofChange casingMoreWrong)

/-- 'moonpoollaw05.CasingDesign': WHATEVER THE INPUT: true; the input reads as it did. -/
def casingDesignSpec : ChangeSpec := { name := "casingDesign", fn := fun _ => fun
  | [d1, d2, d3] => { results := [.lit (.bool true)], args := [d1, d2, d3] }
  | _ => none }
def casingDesignRow : OpenClaim := { program := "ytannipfohicpmaa", sum := "9384939d5c7f9fdf8d421116166671600d99fb49e09ac0b2f6b1353be2f60158", func := "moonpool/moonpoollaw05.CasingDesign", spec := "casingDesign", unfollowed := true, recurses := true, apart := false }
def CasingDesignSaid : Prop := casingDesignRow.holds Try.pinned (OpenSpec.ofChange casingDesignSpec)

/-- ITS FALSE NEIGHBOUR: 'it returns false'. Refute it at one input. -/
def casingDesignWrong : ChangeSpec := { name := "casingDesign", fn := fun _ => fun
  | [d1, d2, d3] => { results := [.lit (.bool false)], args := [d1, d2, d3] }
  | _ => none }
def CasingDesignWrongFalsely : Prop := casingDesignRow.holds Try.pinned (OpenSpec.ofChange casingDesignWrong)

/-- 'moonpoollaw05.CasingChecks': WHATEVER THE INPUT: true; the input reads as it did. -/
def casingChecksSpec : ChangeSpec := { name := "casingChecks", fn := fun _ => fun
  | [d1, d2] => { results := [.lit (.bool true)], args := [d1, d2] }
  | _ => none }
def casingChecksRow : OpenClaim := { program := "ytannipfohicpmaa", sum := "9384939d5c7f9fdf8d421116166671600d99fb49e09ac0b2f6b1353be2f60158", func := "moonpool/moonpoollaw05.CasingChecks", spec := "casingChecks", unfollowed := true, recurses := true, apart := false }
def CasingChecksSaid : Prop := casingChecksRow.holds Try.pinned (OpenSpec.ofChange casingChecksSpec)

/-- ITS FALSE NEIGHBOUR: 'it returns false'. Refute it at one input. -/
def casingChecksWrong : ChangeSpec := { name := "casingChecks", fn := fun _ => fun
  | [d1, d2] => { results := [.lit (.bool false)], args := [d1, d2] }
  | _ => none }
def CasingChecksWrongFalsely : Prop := casingChecksRow.holds Try.pinned (OpenSpec.ofChange casingChecksWrong)

/- THE SECOND FORM. 'bulk': how many values and letters a reading holds, each counted each time it is reached (what is shared counts as often as it is met; a slice's spare places count too). A statement '..UptoSaid' is the law's where the arguments, and the package variables that the reading takes, are together of bulk at most 1048576: NARROWER than '..Said'. Prove '..Said' where nothing that the law and all that it calls make is longer than what came in: it says more and counts as full. Else prove '..UptoSaid'. A law counts once. -/
mutual
def uptoBulk {H : Type} : DataW H → Nat
  | .lit (.string bytes) => bytes.length + 1
  | .lit _ => 1
  | .nil => 1
  | .ptr d => uptoBulk d + 1
  | .slice elems spare => uptoBulkAll elems + uptoBulkAll spare + 1
  | .agg parts => uptoBulkAll parts + 1
  | .iface _ d => uptoBulk d + 1
  | .map entries => uptoBulkEntries entries + 1
  | .held _ => 1
def uptoBulkAll {H : Type} : List (DataW H) → Nat
  | [] => 0
  | d :: r => uptoBulk d + uptoBulkAll r
def uptoBulkEntries {H : Type} : List (Lit × DataW H) → Nat
  | [] => 0
  | x :: r => uptoBulkEntry x + uptoBulkEntries r
def uptoBulkEntry {H : Type} : Lit × DataW H → Nat
  | (.string bytes, d) => bytes.length + uptoBulk d + 1
  | (_, d) => uptoBulk d + 1
 end
def uptoSmall : (H : Type) → List (DataW H) → Bool := fun _ ds => decide (uptoBulkAll ds ≤ 1048576)
def OpenSpec.upto (s : _root_.Go.ChangeSpec) : _root_.Go.OpenSpec := { _root_.Go.OpenSpec.ofChange s with cond := some uptoSmall }

/-- 'moonpoollaw05.CasingLoads', WHERE WHAT IT READS IS OF BULK AT MOST 1048576: true; the input reads as it did. -/
def casingLoadsUptoRow : OpenClaim := { program := "ytannipfohicpmaa", sum := "9384939d5c7f9fdf8d421116166671600d99fb49e09ac0b2f6b1353be2f60158", func := "moonpool/moonpoollaw05.CasingLoads", spec := "casingLoads", unfollowed := true, recurses := true, apart := false, narrowed := true }
def CasingLoadsUptoSaid : Prop := casingLoadsUptoRow.holds Try.pinned (OpenSpec.upto casingLoadsSpec)

/-- 'moonpoollaw05.CasingBears', WHERE WHAT IT READS IS OF BULK AT MOST 1048576: true; the input reads as it did. -/
def casingBearsUptoRow : OpenClaim := { program := "ytannipfohicpmaa", sum := "9384939d5c7f9fdf8d421116166671600d99fb49e09ac0b2f6b1353be2f60158", func := "moonpool/moonpoollaw05.CasingBears", spec := "casingBears", unfollowed := true, recurses := true, apart := false, narrowed := true }
def CasingBearsUptoSaid : Prop := casingBearsUptoRow.holds Try.pinned (OpenSpec.upto casingBearsSpec)

/-- 'moonpoollaw05.CasingPulls', WHERE WHAT IT READS IS OF BULK AT MOST 1048576: true; the input reads as it did. -/
def casingPullsUptoRow : OpenClaim := { program := "ytannipfohicpmaa", sum := "9384939d5c7f9fdf8d421116166671600d99fb49e09ac0b2f6b1353be2f60158", func := "moonpool/moonpoollaw05.CasingPulls", spec := "casingPulls", unfollowed := true, recurses := true, apart := false, narrowed := true }
def CasingPullsUptoSaid : Prop := casingPullsUptoRow.holds Try.pinned (OpenSpec.upto casingPullsSpec)

/-- 'moonpoollaw05.CasingProves', WHERE WHAT IT READS IS OF BULK AT MOST 1048576: true; the input reads as it did. -/
def casingProvesUptoRow : OpenClaim := { program := "ytannipfohicpmaa", sum := "9384939d5c7f9fdf8d421116166671600d99fb49e09ac0b2f6b1353be2f60158", func := "moonpool/moonpoollaw05.CasingProves", spec := "casingProves", unfollowed := true, recurses := true, apart := false, narrowed := true }
def CasingProvesUptoSaid : Prop := casingProvesUptoRow.holds Try.pinned (OpenSpec.upto casingProvesSpec)

/-- 'moonpoollaw05.CasingOnce', WHERE WHAT IT READS IS OF BULK AT MOST 1048576: true; the input reads as it did. -/
def casingOnceUptoRow : OpenClaim := { program := "ytannipfohicpmaa", sum := "9384939d5c7f9fdf8d421116166671600d99fb49e09ac0b2f6b1353be2f60158", func := "moonpool/moonpoollaw05.CasingOnce", spec := "casingOnce", unfollowed := true, recurses := true, apart := false, narrowed := true }
def CasingOnceUptoSaid : Prop := casingOnceUptoRow.holds Try.pinned (OpenSpec.upto casingOnceSpec)

/-- 'moonpoollaw05.CasingChooses', WHERE WHAT IT READS IS OF BULK AT MOST 1048576: true; the input reads as it did. -/
def casingChoosesUptoRow : OpenClaim := { program := "ytannipfohicpmaa", sum := "9384939d5c7f9fdf8d421116166671600d99fb49e09ac0b2f6b1353be2f60158", func := "moonpool/moonpoollaw05.CasingChooses", spec := "casingChooses", unfollowed := true, recurses := true, apart := false, narrowed := true }
def CasingChoosesUptoSaid : Prop := casingChoosesUptoRow.holds Try.pinned (OpenSpec.upto casingChoosesSpec)

/-- 'moonpoollaw05.CasingBest', WHERE WHAT IT READS IS OF BULK AT MOST 1048576: true; the input reads as it did. -/
def casingBestUptoRow : OpenClaim := { program := "ytannipfohicpmaa", sum := "9384939d5c7f9fdf8d421116166671600d99fb49e09ac0b2f6b1353be2f60158", func := "moonpool/moonpoollaw05.CasingBest", spec := "casingBest", unfollowed := true, recurses := true, apart := false, narrowed := true }
def CasingBestUptoSaid : Prop := casingBestUptoRow.holds Try.pinned (OpenSpec.upto casingBestSpec)

/-- 'moonpoollaw05.CasingMore', WHERE WHAT IT READS IS OF BULK AT MOST 1048576: true; the input reads as it did. -/
def casingMoreUptoRow : OpenClaim := { program := "ytannipfohicpmaa", sum := "9384939d5c7f9fdf8d421116166671600d99fb49e09ac0b2f6b1353be2f60158", func := "moonpool/moonpoollaw05.CasingMore", spec := "casingMore", unfollowed := true, recurses := true, apart := false, narrowed := true }
def CasingMoreUptoSaid : Prop := casingMoreUptoRow.holds Try.pinned (OpenSpec.upto casingMoreSpec)

/-- 'moonpoollaw05.CasingDesign', WHERE WHAT IT READS IS OF BULK AT MOST 1048576: true; the input reads as it did. -/
def casingDesignUptoRow : OpenClaim := { program := "ytannipfohicpmaa", sum := "9384939d5c7f9fdf8d421116166671600d99fb49e09ac0b2f6b1353be2f60158", func := "moonpool/moonpoollaw05.CasingDesign", spec := "casingDesign", unfollowed := true, recurses := true, apart := false, narrowed := true }
def CasingDesignUptoSaid : Prop := casingDesignUptoRow.holds Try.pinned (OpenSpec.upto casingDesignSpec)

/-- 'moonpoollaw05.CasingChecks', WHERE WHAT IT READS IS OF BULK AT MOST 1048576: true; the input reads as it did. -/
def casingChecksUptoRow : OpenClaim := { program := "ytannipfohicpmaa", sum := "9384939d5c7f9fdf8d421116166671600d99fb49e09ac0b2f6b1353be2f60158", func := "moonpool/moonpoollaw05.CasingChecks", spec := "casingChecks", unfollowed := true, recurses := true, apart := false, narrowed := true }
def CasingChecksUptoSaid : Prop := casingChecksUptoRow.holds Try.pinned (OpenSpec.upto casingChecksSpec)

end Rows
end Go.Proofs.Ytannipfohicpmaa
