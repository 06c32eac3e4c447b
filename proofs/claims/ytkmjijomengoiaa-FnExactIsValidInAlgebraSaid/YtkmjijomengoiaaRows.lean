/-
  No cell of these rows narrows 'for every input' (looked for: loops, veiled, ifaces, maps, wideKeys, modest, calm, conditions, laid).
  DERIVED. THE GIVEN ROWS OF THIS SEAT. 11 by the template 'for every input the law returns true; each argument reads behind the call as it read before'; 0 by the template 'total and deterministic' (their statements: YtkmjijomengoiaaTotals.lean).
  GIVEN WITH THE SEED: the statements are not yours to turn. If you find one false, say at which input.
  Laid BY PROGRAM, IN A SANDBOX (cutbox-rows.mjs): the forced cells as the released guide's own fill.sh prints them over the translation 725643a7dab3d465… (all of the seat's roots in one cut). By AI agents, Wed Nov 11 2026. No macro, syntax, notation, axiom, sorry.
-/
import Derived.Test.YtkmjijomengoiaaChecked
import GoSem.Claim
import GoSem.ClaimJoined
import GoSem.ClaimMapViews
import Derived.JoinedTies
import Derived.KernelRfl
namespace Go.Proofs.Ytkmjijomengoiaa
/- THE CELL 'sum', in the pinned program and in every row, IS THE sha256 OF THE DUMP (.gsa) THAT YtkmjijomengoiaaProg.lean LOADS. Nothing in Lean hashes anything: it is a label: what it is worth is what the hold of that sum in a sandbox is worth. -/
noncomputable def Try.pinned : Pinned := { name := "ytkmjijomengoiaa", sum := "725643a7dab3d465d9672d0cda98b950cb7df620d9773996215bfa95117b5c68", checked := Try.checked }
namespace Rows
def none {H : Type} : Left H := { results := [], args := [] }

/-- 'laws.FnExactAlgebraValue': WHATEVER THE INPUT: true; the input reads as it did. -/
def fnExactAlgebraValueSpec : ChangeSpec := { name := "fnExactAlgebraValue", fn := fun _ => fun
  | [d1, d2, d3] => { results := [.lit (.bool true)], args := [d1, d2, d3] }
  | _ => none }
def fnExactAlgebraValueRow : OpenClaim := { program := "ytkmjijomengoiaa", sum := "725643a7dab3d465d9672d0cda98b950cb7df620d9773996215bfa95117b5c68", func := "loop.example/g01089/laws.FnExactAlgebraValue", spec := "fnExactAlgebraValue", unfollowed := true, recurses := true, apart := false }
def FnExactAlgebraValueSaid : Prop := fnExactAlgebraValueRow.holds Try.pinned (OpenSpec.ofChange fnExactAlgebraValueSpec)

/-- ITS FALSE NEIGHBOUR: 'it returns false'. Refute it at one input. -/
def fnExactAlgebraValueWrong : ChangeSpec := { name := "fnExactAlgebraValue", fn := fun _ => fun
  | [d1, d2, d3] => { results := [.lit (.bool false)], args := [d1, d2, d3] }
  | _ => none }
def FnExactAlgebraValueWrongFalsely : Prop := fnExactAlgebraValueRow.holds Try.pinned (OpenSpec.ofChange fnExactAlgebraValueWrong)

/-- 'laws.FnExactIsTrueIn': WHATEVER THE INPUT: true; the input reads as it did. -/
def fnExactIsTrueInSpec : ChangeSpec := { name := "fnExactIsTrueIn", fn := fun _ => fun
  | [d1, d2] => { results := [.lit (.bool true)], args := [d1, d2] }
  | _ => none }
def fnExactIsTrueInRow : OpenClaim := { program := "ytkmjijomengoiaa", sum := "725643a7dab3d465d9672d0cda98b950cb7df620d9773996215bfa95117b5c68", func := "loop.example/g01089/laws.FnExactIsTrueIn", spec := "fnExactIsTrueIn", unfollowed := true, recurses := true, apart := false }
def FnExactIsTrueInSaid : Prop := fnExactIsTrueInRow.holds Try.pinned (OpenSpec.ofChange fnExactIsTrueInSpec)

/-- ITS FALSE NEIGHBOUR: 'it returns false'. Refute it at one input. -/
def fnExactIsTrueInWrong : ChangeSpec := { name := "fnExactIsTrueIn", fn := fun _ => fun
  | [d1, d2] => { results := [.lit (.bool false)], args := [d1, d2] }
  | _ => none }
def FnExactIsTrueInWrongFalsely : Prop := fnExactIsTrueInRow.holds Try.pinned (OpenSpec.ofChange fnExactIsTrueInWrong)

/-- 'laws.FnExactTruthSet': WHATEVER THE INPUT: true; the input reads as it did. -/
def fnExactTruthSetSpec : ChangeSpec := { name := "fnExactTruthSet", fn := fun _ => fun
  | [d1, d2] => { results := [.lit (.bool true)], args := [d1, d2] }
  | _ => none }
def fnExactTruthSetRow : OpenClaim := { program := "ytkmjijomengoiaa", sum := "725643a7dab3d465d9672d0cda98b950cb7df620d9773996215bfa95117b5c68", func := "loop.example/g01089/laws.FnExactTruthSet", spec := "fnExactTruthSet", unfollowed := true, recurses := true, apart := false }
def FnExactTruthSetSaid : Prop := fnExactTruthSetRow.holds Try.pinned (OpenSpec.ofChange fnExactTruthSetSpec)

/-- ITS FALSE NEIGHBOUR: 'it returns false'. Refute it at one input. -/
def fnExactTruthSetWrong : ChangeSpec := { name := "fnExactTruthSet", fn := fun _ => fun
  | [d1, d2] => { results := [.lit (.bool false)], args := [d1, d2] }
  | _ => none }
def FnExactTruthSetWrongFalsely : Prop := fnExactTruthSetRow.holds Try.pinned (OpenSpec.ofChange fnExactTruthSetWrong)

/-- 'laws.FnExactIsTrueAt': WHATEVER THE INPUT: true; the input reads as it did. -/
def fnExactIsTrueAtSpec : ChangeSpec := { name := "fnExactIsTrueAt", fn := fun _ => fun
  | [d1, d2, d3] => { results := [.lit (.bool true)], args := [d1, d2, d3] }
  | _ => none }
def fnExactIsTrueAtRow : OpenClaim := { program := "ytkmjijomengoiaa", sum := "725643a7dab3d465d9672d0cda98b950cb7df620d9773996215bfa95117b5c68", func := "loop.example/g01089/laws.FnExactIsTrueAt", spec := "fnExactIsTrueAt", unfollowed := true, recurses := true, apart := false }
def FnExactIsTrueAtSaid : Prop := fnExactIsTrueAtRow.holds Try.pinned (OpenSpec.ofChange fnExactIsTrueAtSpec)

/-- ITS FALSE NEIGHBOUR: 'it returns false'. Refute it at one input. -/
def fnExactIsTrueAtWrong : ChangeSpec := { name := "fnExactIsTrueAt", fn := fun _ => fun
  | [d1, d2, d3] => { results := [.lit (.bool false)], args := [d1, d2, d3] }
  | _ => none }
def FnExactIsTrueAtWrongFalsely : Prop := fnExactIsTrueAtRow.holds Try.pinned (OpenSpec.ofChange fnExactIsTrueAtWrong)

/-- 'laws.FnExactIsValidInAlgebra': WHATEVER THE INPUT: true; the input reads as it did. -/
def fnExactIsValidInAlgebraSpec : ChangeSpec := { name := "fnExactIsValidInAlgebra", fn := fun _ => fun
  | [d1, d2] => { results := [.lit (.bool true)], args := [d1, d2] }
  | _ => none }
def fnExactIsValidInAlgebraRow : OpenClaim := { program := "ytkmjijomengoiaa", sum := "725643a7dab3d465d9672d0cda98b950cb7df620d9773996215bfa95117b5c68", func := "loop.example/g01089/laws.FnExactIsValidInAlgebra", spec := "fnExactIsValidInAlgebra", unfollowed := true, recurses := true, apart := false }
def FnExactIsValidInAlgebraSaid : Prop := fnExactIsValidInAlgebraRow.holds Try.pinned (OpenSpec.ofChange fnExactIsValidInAlgebraSpec)

/-- ITS FALSE NEIGHBOUR: 'it returns false'. Refute it at one input. -/
def fnExactIsValidInAlgebraWrong : ChangeSpec := { name := "fnExactIsValidInAlgebra", fn := fun _ => fun
  | [d1, d2] => { results := [.lit (.bool false)], args := [d1, d2] }
  | _ => none }
def FnExactIsValidInAlgebraWrongFalsely : Prop := fnExactIsValidInAlgebraRow.holds Try.pinned (OpenSpec.ofChange fnExactIsValidInAlgebraWrong)

/-- 'laws.FnExactRefutingWorlds': WHATEVER THE INPUT: true; the input reads as it did. -/
def fnExactRefutingWorldsSpec : ChangeSpec := { name := "fnExactRefutingWorlds", fn := fun _ => fun
  | [d1, d2] => { results := [.lit (.bool true)], args := [d1, d2] }
  | _ => none }
def fnExactRefutingWorldsRow : OpenClaim := { program := "ytkmjijomengoiaa", sum := "725643a7dab3d465d9672d0cda98b950cb7df620d9773996215bfa95117b5c68", func := "loop.example/g01089/laws.FnExactRefutingWorlds", spec := "fnExactRefutingWorlds", unfollowed := true, recurses := true, apart := false }
def FnExactRefutingWorldsSaid : Prop := fnExactRefutingWorldsRow.holds Try.pinned (OpenSpec.ofChange fnExactRefutingWorldsSpec)

/-- ITS FALSE NEIGHBOUR: 'it returns false'. Refute it at one input. -/
def fnExactRefutingWorldsWrong : ChangeSpec := { name := "fnExactRefutingWorlds", fn := fun _ => fun
  | [d1, d2] => { results := [.lit (.bool false)], args := [d1, d2] }
  | _ => none }
def FnExactRefutingWorldsWrongFalsely : Prop := fnExactRefutingWorldsRow.holds Try.pinned (OpenSpec.ofChange fnExactRefutingWorldsWrong)

/-- 'laws.FnExactIsValidOn': WHATEVER THE INPUT: true; the input reads as it did. -/
def fnExactIsValidOnSpec : ChangeSpec := { name := "fnExactIsValidOn", fn := fun _ => fun
  | [d1, d2] => { results := [.lit (.bool true)], args := [d1, d2] }
  | _ => none }
def fnExactIsValidOnRow : OpenClaim := { program := "ytkmjijomengoiaa", sum := "725643a7dab3d465d9672d0cda98b950cb7df620d9773996215bfa95117b5c68", func := "loop.example/g01089/laws.FnExactIsValidOn", spec := "fnExactIsValidOn", unfollowed := true, recurses := true, apart := false }
def FnExactIsValidOnSaid : Prop := fnExactIsValidOnRow.holds Try.pinned (OpenSpec.ofChange fnExactIsValidOnSpec)

/-- ITS FALSE NEIGHBOUR: 'it returns false'. Refute it at one input. -/
def fnExactIsValidOnWrong : ChangeSpec := { name := "fnExactIsValidOn", fn := fun _ => fun
  | [d1, d2] => { results := [.lit (.bool false)], args := [d1, d2] }
  | _ => none }
def FnExactIsValidOnWrongFalsely : Prop := fnExactIsValidOnRow.holds Try.pinned (OpenSpec.ofChange fnExactIsValidOnWrong)

/-- 'laws.FnExactIsGlobalConsequence': WHATEVER THE INPUT: true; the input reads as it did. -/
def fnExactIsGlobalConsequenceSpec : ChangeSpec := { name := "fnExactIsGlobalConsequence", fn := fun _ => fun
  | [d1, d2, d3] => { results := [.lit (.bool true)], args := [d1, d2, d3] }
  | _ => none }
def fnExactIsGlobalConsequenceRow : OpenClaim := { program := "ytkmjijomengoiaa", sum := "725643a7dab3d465d9672d0cda98b950cb7df620d9773996215bfa95117b5c68", func := "loop.example/g01089/laws.FnExactIsGlobalConsequence", spec := "fnExactIsGlobalConsequence", unfollowed := true, recurses := true, apart := false }
def FnExactIsGlobalConsequenceSaid : Prop := fnExactIsGlobalConsequenceRow.holds Try.pinned (OpenSpec.ofChange fnExactIsGlobalConsequenceSpec)

/-- ITS FALSE NEIGHBOUR: 'it returns false'. Refute it at one input. -/
def fnExactIsGlobalConsequenceWrong : ChangeSpec := { name := "fnExactIsGlobalConsequence", fn := fun _ => fun
  | [d1, d2, d3] => { results := [.lit (.bool false)], args := [d1, d2, d3] }
  | _ => none }
def FnExactIsGlobalConsequenceWrongFalsely : Prop := fnExactIsGlobalConsequenceRow.holds Try.pinned (OpenSpec.ofChange fnExactIsGlobalConsequenceWrong)

/-- 'laws.FnExactIsLocalConsequence': WHATEVER THE INPUT: true; the input reads as it did. -/
def fnExactIsLocalConsequenceSpec : ChangeSpec := { name := "fnExactIsLocalConsequence", fn := fun _ => fun
  | [d1, d2, d3] => { results := [.lit (.bool true)], args := [d1, d2, d3] }
  | _ => none }
def fnExactIsLocalConsequenceRow : OpenClaim := { program := "ytkmjijomengoiaa", sum := "725643a7dab3d465d9672d0cda98b950cb7df620d9773996215bfa95117b5c68", func := "loop.example/g01089/laws.FnExactIsLocalConsequence", spec := "fnExactIsLocalConsequence", unfollowed := true, recurses := true, apart := false }
def FnExactIsLocalConsequenceSaid : Prop := fnExactIsLocalConsequenceRow.holds Try.pinned (OpenSpec.ofChange fnExactIsLocalConsequenceSpec)

/-- ITS FALSE NEIGHBOUR: 'it returns false'. Refute it at one input. -/
def fnExactIsLocalConsequenceWrong : ChangeSpec := { name := "fnExactIsLocalConsequence", fn := fun _ => fun
  | [d1, d2, d3] => { results := [.lit (.bool false)], args := [d1, d2, d3] }
  | _ => none }
def FnExactIsLocalConsequenceWrongFalsely : Prop := fnExactIsLocalConsequenceRow.holds Try.pinned (OpenSpec.ofChange fnExactIsLocalConsequenceWrong)

/-- 'laws.FnExactFirstRefutation': WHATEVER THE INPUT: true; the input reads as it did. -/
def fnExactFirstRefutationSpec : ChangeSpec := { name := "fnExactFirstRefutation", fn := fun _ => fun
  | [d1, d2] => { results := [.lit (.bool true)], args := [d1, d2] }
  | _ => none }
def fnExactFirstRefutationRow : OpenClaim := { program := "ytkmjijomengoiaa", sum := "725643a7dab3d465d9672d0cda98b950cb7df620d9773996215bfa95117b5c68", func := "loop.example/g01089/laws.FnExactFirstRefutation", spec := "fnExactFirstRefutation", unfollowed := true, recurses := true, apart := false }
def FnExactFirstRefutationSaid : Prop := fnExactFirstRefutationRow.holds Try.pinned (OpenSpec.ofChange fnExactFirstRefutationSpec)

/-- ITS FALSE NEIGHBOUR: 'it returns false'. Refute it at one input. -/
def fnExactFirstRefutationWrong : ChangeSpec := { name := "fnExactFirstRefutation", fn := fun _ => fun
  | [d1, d2] => { results := [.lit (.bool false)], args := [d1, d2] }
  | _ => none }
def FnExactFirstRefutationWrongFalsely : Prop := fnExactFirstRefutationRow.holds Try.pinned (OpenSpec.ofChange fnExactFirstRefutationWrong)

/-- 'laws.FnExactDefinableSets': WHATEVER THE INPUT: true; the input reads as it did. -/
def fnExactDefinableSetsSpec : ChangeSpec := { name := "fnExactDefinableSets", fn := fun _ => fun
  | [d1, d2] => { results := [.lit (.bool true)], args := [d1, d2] }
  | _ => none }
def fnExactDefinableSetsRow : OpenClaim := { program := "ytkmjijomengoiaa", sum := "725643a7dab3d465d9672d0cda98b950cb7df620d9773996215bfa95117b5c68", func := "loop.example/g01089/laws.FnExactDefinableSets", spec := "fnExactDefinableSets", unfollowed := true, recurses := true, apart := false }
def FnExactDefinableSetsSaid : Prop := fnExactDefinableSetsRow.holds Try.pinned (OpenSpec.ofChange fnExactDefinableSetsSpec)

/-- ITS FALSE NEIGHBOUR: 'it returns false'. Refute it at one input. -/
def fnExactDefinableSetsWrong : ChangeSpec := { name := "fnExactDefinableSets", fn := fun _ => fun
  | [d1, d2] => { results := [.lit (.bool false)], args := [d1, d2] }
  | _ => none }
def FnExactDefinableSetsWrongFalsely : Prop := fnExactDefinableSetsRow.holds Try.pinned (OpenSpec.ofChange fnExactDefinableSetsWrong)

/- THE SECOND FORM. 'bulk': how many values and letters a reading holds, each counted each time it is reached (what is shared counts as often as it is met; a slice's spare places count too). A statement '..UptoSaid' is the law's where the arguments, and the package variables that the reading takes, are together of bulk at most 1048576: NARROWER than '..Said'. Prove '..Said' where nothing that the law and all that it calls make is longer than what came in: it says more and counts as full. Else prove '..UptoSaid'. A law counts once. -/
mutual
def uptoBulk {H : Type} : DataW H → Nat
  | .lit (.string bytes) => bytes.length + 1
  | .lit _ => 1
  | .nil => 1
  | .ptr d => uptoBulk d + 1
  | .slice elems spare => uptoBulkAll elems + uptoBulkAll spare + 1
  | .agg parts => uptoBulkAll parts + 1
  | .iface _ d => uptoBulk d + 1
  | .map entries => uptoBulkEntries entries + 1
  | .held _ => 1
def uptoBulkAll {H : Type} : List (DataW H) → Nat
  | [] => 0
  | d :: r => uptoBulk d + uptoBulkAll r
def uptoBulkEntries {H : Type} : List (Lit × DataW H) → Nat
  | [] => 0
  | x :: r => uptoBulkEntry x + uptoBulkEntries r
def uptoBulkEntry {H : Type} : Lit × DataW H → Nat
  | (.string bytes, d) => bytes.length + uptoBulk d + 1
  | (_, d) => uptoBulk d + 1
 end
def uptoSmall : (H : Type) → List (DataW H) → Bool := fun _ ds => decide (uptoBulkAll ds ≤ 1048576)
def OpenSpec.upto (s : _root_.Go.ChangeSpec) : _root_.Go.OpenSpec := { _root_.Go.OpenSpec.ofChange s with cond := some uptoSmall }

/-- 'laws.FnExactAlgebraValue', WHERE WHAT IT READS IS OF BULK AT MOST 1048576: true; the input reads as it did. -/
def fnExactAlgebraValueUptoRow : OpenClaim := { program := "ytkmjijomengoiaa", sum := "725643a7dab3d465d9672d0cda98b950cb7df620d9773996215bfa95117b5c68", func := "loop.example/g01089/laws.FnExactAlgebraValue", spec := "fnExactAlgebraValue", unfollowed := true, recurses := true, apart := false, narrowed := true }
def FnExactAlgebraValueUptoSaid : Prop := fnExactAlgebraValueUptoRow.holds Try.pinned (OpenSpec.upto fnExactAlgebraValueSpec)

/-- 'laws.FnExactIsTrueIn', WHERE WHAT IT READS IS OF BULK AT MOST 1048576: true; the input reads as it did. -/
def fnExactIsTrueInUptoRow : OpenClaim := { program := "ytkmjijomengoiaa", sum := "725643a7dab3d465d9672d0cda98b950cb7df620d9773996215bfa95117b5c68", func := "loop.example/g01089/laws.FnExactIsTrueIn", spec := "fnExactIsTrueIn", unfollowed := true, recurses := true, apart := false, narrowed := true }
def FnExactIsTrueInUptoSaid : Prop := fnExactIsTrueInUptoRow.holds Try.pinned (OpenSpec.upto fnExactIsTrueInSpec)

/-- 'laws.FnExactTruthSet', WHERE WHAT IT READS IS OF BULK AT MOST 1048576: true; the input reads as it did. -/
def fnExactTruthSetUptoRow : OpenClaim := { program := "ytkmjijomengoiaa", sum := "725643a7dab3d465d9672d0cda98b950cb7df620d9773996215bfa95117b5c68", func := "loop.example/g01089/laws.FnExactTruthSet", spec := "fnExactTruthSet", unfollowed := true, recurses := true, apart := false, narrowed := true }
def FnExactTruthSetUptoSaid : Prop := fnExactTruthSetUptoRow.holds Try.pinned (OpenSpec.upto fnExactTruthSetSpec)

/-- 'laws.FnExactIsTrueAt', WHERE WHAT IT READS IS OF BULK AT MOST 1048576: true; the input reads as it did. -/
def fnExactIsTrueAtUptoRow : OpenClaim := { program := "ytkmjijomengoiaa", sum := "725643a7dab3d465d9672d0cda98b950cb7df620d9773996215bfa95117b5c68", func := "loop.example/g01089/laws.FnExactIsTrueAt", spec := "fnExactIsTrueAt", unfollowed := true, recurses := true, apart := false, narrowed := true }
def FnExactIsTrueAtUptoSaid : Prop := fnExactIsTrueAtUptoRow.holds Try.pinned (OpenSpec.upto fnExactIsTrueAtSpec)

/-- 'laws.FnExactIsValidInAlgebra', WHERE WHAT IT READS IS OF BULK AT MOST 1048576: true; the input reads as it did. -/
def fnExactIsValidInAlgebraUptoRow : OpenClaim := { program := "ytkmjijomengoiaa", sum := "725643a7dab3d465d9672d0cda98b950cb7df620d9773996215bfa95117b5c68", func := "loop.example/g01089/laws.FnExactIsValidInAlgebra", spec := "fnExactIsValidInAlgebra", unfollowed := true, recurses := true, apart := false, narrowed := true }
def FnExactIsValidInAlgebraUptoSaid : Prop := fnExactIsValidInAlgebraUptoRow.holds Try.pinned (OpenSpec.upto fnExactIsValidInAlgebraSpec)

/-- 'laws.FnExactRefutingWorlds', WHERE WHAT IT READS IS OF BULK AT MOST 1048576: true; the input reads as it did. -/
def fnExactRefutingWorldsUptoRow : OpenClaim := { program := "ytkmjijomengoiaa", sum := "725643a7dab3d465d9672d0cda98b950cb7df620d9773996215bfa95117b5c68", func := "loop.example/g01089/laws.FnExactRefutingWorlds", spec := "fnExactRefutingWorlds", unfollowed := true, recurses := true, apart := false, narrowed := true }
def FnExactRefutingWorldsUptoSaid : Prop := fnExactRefutingWorldsUptoRow.holds Try.pinned (OpenSpec.upto fnExactRefutingWorldsSpec)

/-- 'laws.FnExactIsValidOn', WHERE WHAT IT READS IS OF BULK AT MOST 1048576: true; the input reads as it did. -/
def fnExactIsValidOnUptoRow : OpenClaim := { program := "ytkmjijomengoiaa", sum := "725643a7dab3d465d9672d0cda98b950cb7df620d9773996215bfa95117b5c68", func := "loop.example/g01089/laws.FnExactIsValidOn", spec := "fnExactIsValidOn", unfollowed := true, recurses := true, apart := false, narrowed := true }
def FnExactIsValidOnUptoSaid : Prop := fnExactIsValidOnUptoRow.holds Try.pinned (OpenSpec.upto fnExactIsValidOnSpec)

/-- 'laws.FnExactIsGlobalConsequence', WHERE WHAT IT READS IS OF BULK AT MOST 1048576: true; the input reads as it did. -/
def fnExactIsGlobalConsequenceUptoRow : OpenClaim := { program := "ytkmjijomengoiaa", sum := "725643a7dab3d465d9672d0cda98b950cb7df620d9773996215bfa95117b5c68", func := "loop.example/g01089/laws.FnExactIsGlobalConsequence", spec := "fnExactIsGlobalConsequence", unfollowed := true, recurses := true, apart := false, narrowed := true }
def FnExactIsGlobalConsequenceUptoSaid : Prop := fnExactIsGlobalConsequenceUptoRow.holds Try.pinned (OpenSpec.upto fnExactIsGlobalConsequenceSpec)

/-- 'laws.FnExactIsLocalConsequence', WHERE WHAT IT READS IS OF BULK AT MOST 1048576: true; the input reads as it did. -/
def fnExactIsLocalConsequenceUptoRow : OpenClaim := { program := "ytkmjijomengoiaa", sum := "725643a7dab3d465d9672d0cda98b950cb7df620d9773996215bfa95117b5c68", func := "loop.example/g01089/laws.FnExactIsLocalConsequence", spec := "fnExactIsLocalConsequence", unfollowed := true, recurses := true, apart := false, narrowed := true }
def FnExactIsLocalConsequenceUptoSaid : Prop := fnExactIsLocalConsequenceUptoRow.holds Try.pinned (OpenSpec.upto fnExactIsLocalConsequenceSpec)

/-- 'laws.FnExactFirstRefutation', WHERE WHAT IT READS IS OF BULK AT MOST 1048576: true; the input reads as it did. -/
def fnExactFirstRefutationUptoRow : OpenClaim := { program := "ytkmjijomengoiaa", sum := "725643a7dab3d465d9672d0cda98b950cb7df620d9773996215bfa95117b5c68", func := "loop.example/g01089/laws.FnExactFirstRefutation", spec := "fnExactFirstRefutation", unfollowed := true, recurses := true, apart := false, narrowed := true }
def FnExactFirstRefutationUptoSaid : Prop := fnExactFirstRefutationUptoRow.holds Try.pinned (OpenSpec.upto fnExactFirstRefutationSpec)

/-- 'laws.FnExactDefinableSets', WHERE WHAT IT READS IS OF BULK AT MOST 1048576: true; the input reads as it did. -/
def fnExactDefinableSetsUptoRow : OpenClaim := { program := "ytkmjijomengoiaa", sum := "725643a7dab3d465d9672d0cda98b950cb7df620d9773996215bfa95117b5c68", func := "loop.example/g01089/laws.FnExactDefinableSets", spec := "fnExactDefinableSets", unfollowed := true, recurses := true, apart := false, narrowed := true }
def FnExactDefinableSetsUptoSaid : Prop := fnExactDefinableSetsUptoRow.holds Try.pinned (OpenSpec.upto fnExactDefinableSetsSpec)

end Rows
end Go.Proofs.Ytkmjijomengoiaa
