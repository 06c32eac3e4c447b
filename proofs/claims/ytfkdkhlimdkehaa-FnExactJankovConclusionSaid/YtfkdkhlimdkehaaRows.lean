/-
  No cell of these rows narrows 'for every input' (looked for: loops, veiled, ifaces, maps, wideKeys, modest, calm, conditions, laid).
  DERIVED. THE GIVEN ROWS OF THIS SEAT. 3 by the template 'for every input the law returns true; each argument reads behind the call as it read before'; 0 by the template 'total and deterministic' (their statements: YtfkdkhlimdkehaaTotals.lean).
  GIVEN WITH THE SEED: the statements are not yours to turn. If you find one false, say at which input.
  Laid BY PROGRAM, IN A SANDBOX (cutbox-rows.mjs): the forced cells as the released guide's own fill.sh prints them over the translation 4ac7d201807f309b… (all of the seat's roots in one cut). By AI agents, Wed Nov 11 2026. No macro, syntax, notation, axiom, sorry.
-/
import Derived.Test.YtfkdkhlimdkehaaChecked
import GoSem.Claim
import GoSem.ClaimJoined
import GoSem.ClaimMapViews
import Derived.JoinedTies
import Derived.KernelRfl
namespace Go.Proofs.Ytfkdkhlimdkehaa
/- THE CELL 'sum', in the pinned program and in every row, IS THE sha256 OF THE DUMP (.gsa) THAT YtfkdkhlimdkehaaProg.lean LOADS. Nothing in Lean hashes anything: it is a label: what it is worth is what the hold of that sum in a sandbox is worth. -/
noncomputable def Try.pinned : Pinned := { name := "ytfkdkhlimdkehaa", sum := "4ac7d201807f309b04a8b86c6ec812cae55a66b9de7243f121603f835da8cb9d", checked := Try.checked }
namespace Rows
def none {H : Type} : Left H := { results := [], args := [] }

/-- 'laws.FnExactJankovConclusion': WHATEVER THE INPUT: true; the input reads as it did. -/
def fnExactJankovConclusionSpec : ChangeSpec := { name := "fnExactJankovConclusion", fn := fun _ => fun
  | [d] => { results := [.lit (.bool true)], args := [d] }
  | _ => none }
def fnExactJankovConclusionRow : OpenClaim := { program := "ytfkdkhlimdkehaa", sum := "4ac7d201807f309b04a8b86c6ec812cae55a66b9de7243f121603f835da8cb9d", func := "loop.example/g01089/laws.FnExactJankovConclusion", spec := "fnExactJankovConclusion", unfollowed := true, recurses := true, apart := false }
def FnExactJankovConclusionSaid : Prop := fnExactJankovConclusionRow.holds Try.pinned (OpenSpec.ofChange fnExactJankovConclusionSpec)

/-- ITS FALSE NEIGHBOUR: 'it returns false'. Refute it at one input. -/
def fnExactJankovConclusionWrong : ChangeSpec := { name := "fnExactJankovConclusion", fn := fun _ => fun
  | [d] => { results := [.lit (.bool false)], args := [d] }
  | _ => none }
def FnExactJankovConclusionWrongFalsely : Prop := fnExactJankovConclusionRow.holds Try.pinned (OpenSpec.ofChange fnExactJankovConclusionWrong)

/-- 'laws.FnUpsets': WHATEVER THE INPUT: true; the input reads as it did. -/
def fnUpsetsSpec : ChangeSpec := { name := "fnUpsets", fn := fun _ => fun
  | [d] => { results := [.lit (.bool true)], args := [d] }
  | _ => none }
def fnUpsetsRow : OpenClaim := { program := "ytfkdkhlimdkehaa", sum := "4ac7d201807f309b04a8b86c6ec812cae55a66b9de7243f121603f835da8cb9d", func := "loop.example/g01089/laws.FnUpsets", spec := "fnUpsets", unfollowed := true, recurses := true, apart := false }
def FnUpsetsSaid : Prop := fnUpsetsRow.holds Try.pinned (OpenSpec.ofChange fnUpsetsSpec)

/-- ITS FALSE NEIGHBOUR: 'it returns false'. Refute it at one input. -/
def fnUpsetsWrong : ChangeSpec := { name := "fnUpsets", fn := fun _ => fun
  | [d] => { results := [.lit (.bool false)], args := [d] }
  | _ => none }
def FnUpsetsWrongFalsely : Prop := fnUpsetsRow.holds Try.pinned (OpenSpec.ofChange fnUpsetsWrong)

/-- 'laws.FnConsequences': WHATEVER THE INPUT: true; the input reads as it did. -/
def fnConsequencesSpec : ChangeSpec := { name := "fnConsequences", fn := fun _ => fun
  | [d] => { results := [.lit (.bool true)], args := [d] }
  | _ => none }
def fnConsequencesRow : OpenClaim := { program := "ytfkdkhlimdkehaa", sum := "4ac7d201807f309b04a8b86c6ec812cae55a66b9de7243f121603f835da8cb9d", func := "loop.example/g01089/laws.FnConsequences", spec := "fnConsequences", unfollowed := true, recurses := true, apart := false }
def FnConsequencesSaid : Prop := fnConsequencesRow.holds Try.pinned (OpenSpec.ofChange fnConsequencesSpec)

/-- ITS FALSE NEIGHBOUR: 'it returns false'. Refute it at one input. -/
def fnConsequencesWrong : ChangeSpec := { name := "fnConsequences", fn := fun _ => fun
  | [d] => { results := [.lit (.bool false)], args := [d] }
  | _ => none }
def FnConsequencesWrongFalsely : Prop := fnConsequencesRow.holds Try.pinned (OpenSpec.ofChange fnConsequencesWrong)

/- THE SECOND FORM. 'bulk': how many values and letters a reading holds, each counted each time it is reached (what is shared counts as often as it is met; a slice's spare places count too). A statement '..UptoSaid' is the law's where the arguments, and the package variables that the reading takes, are together of bulk at most 1048576: NARROWER than '..Said'. Prove '..Said' where nothing that the law and all that it calls make is longer than what came in: it says more and counts as full. Else prove '..UptoSaid'. A law counts once. -/
mutual
def uptoBulk {H : Type} : DataW H → Nat
  | .lit (.string bytes) => bytes.length + 1
  | .lit _ => 1
  | .nil => 1
  | .ptr d => uptoBulk d + 1
  | .slice elems spare => uptoBulkAll elems + uptoBulkAll spare + 1
  | .agg parts => uptoBulkAll parts + 1
  | .iface _ d => uptoBulk d + 1
  | .map entries => uptoBulkEntries entries + 1
  | .held _ => 1
def uptoBulkAll {H : Type} : List (DataW H) → Nat
  | [] => 0
  | d :: r => uptoBulk d + uptoBulkAll r
def uptoBulkEntries {H : Type} : List (Lit × DataW H) → Nat
  | [] => 0
  | x :: r => uptoBulkEntry x + uptoBulkEntries r
def uptoBulkEntry {H : Type} : Lit × DataW H → Nat
  | (.string bytes, d) => bytes.length + uptoBulk d + 1
  | (_, d) => uptoBulk d + 1
 end
def uptoSmall : (H : Type) → List (DataW H) → Bool := fun _ ds => decide (uptoBulkAll ds ≤ 1048576)
def OpenSpec.upto (s : _root_.Go.ChangeSpec) : _root_.Go.OpenSpec := { _root_.Go.OpenSpec.ofChange s with cond := some uptoSmall }

/-- 'laws.FnExactJankovConclusion', WHERE WHAT IT READS IS OF BULK AT MOST 1048576: true; the input reads as it did. -/
def fnExactJankovConclusionUptoRow : OpenClaim := { program := "ytfkdkhlimdkehaa", sum := "4ac7d201807f309b04a8b86c6ec812cae55a66b9de7243f121603f835da8cb9d", func := "loop.example/g01089/laws.FnExactJankovConclusion", spec := "fnExactJankovConclusion", unfollowed := true, recurses := true, apart := false, narrowed := true }
def FnExactJankovConclusionUptoSaid : Prop := fnExactJankovConclusionUptoRow.holds Try.pinned (OpenSpec.upto fnExactJankovConclusionSpec)

/-- 'laws.FnUpsets', WHERE WHAT IT READS IS OF BULK AT MOST 1048576: true; the input reads as it did. -/
def fnUpsetsUptoRow : OpenClaim := { program := "ytfkdkhlimdkehaa", sum := "4ac7d201807f309b04a8b86c6ec812cae55a66b9de7243f121603f835da8cb9d", func := "loop.example/g01089/laws.FnUpsets", spec := "fnUpsets", unfollowed := true, recurses := true, apart := false, narrowed := true }
def FnUpsetsUptoSaid : Prop := fnUpsetsUptoRow.holds Try.pinned (OpenSpec.upto fnUpsetsSpec)

/-- 'laws.FnConsequences', WHERE WHAT IT READS IS OF BULK AT MOST 1048576: true; the input reads as it did. -/
def fnConsequencesUptoRow : OpenClaim := { program := "ytfkdkhlimdkehaa", sum := "4ac7d201807f309b04a8b86c6ec812cae55a66b9de7243f121603f835da8cb9d", func := "loop.example/g01089/laws.FnConsequences", spec := "fnConsequences", unfollowed := true, recurses := true, apart := false, narrowed := true }
def FnConsequencesUptoSaid : Prop := fnConsequencesUptoRow.holds Try.pinned (OpenSpec.upto fnConsequencesSpec)

end Rows
end Go.Proofs.Ytfkdkhlimdkehaa
