/-
  No cell of these rows narrows 'for every input' (looked for: loops, veiled, ifaces, maps, wideKeys, modest, calm, conditions, laid).
  DERIVED. THE GIVEN ROWS OF THIS SEAT. 7 by the template 'for every input the law returns true; each argument reads behind the call as it read before'; 0 by the template 'total and deterministic' (their statements: YtkanjgmocmhlkaaTotals.lean).
  GIVEN WITH THE SEED: the statements are not yours to turn. If you find one false, say at which input.
  Laid BY PROGRAM, IN A SANDBOX (cutbox-rows.mjs): the forced cells as the released guide's own fill.sh prints them over the translation 1fa8af8a515c14cf… (all of the seat's roots in one cut). By AI agents, Wed Nov 11 2026. No macro, syntax, notation, axiom, sorry.
-/
import Derived.Test.YtkanjgmocmhlkaaChecked
import GoSem.Claim
import GoSem.ClaimJoined
import GoSem.ClaimMapViews
import Derived.JoinedTies
import Derived.KernelRfl
namespace Go.Proofs.Ytkanjgmocmhlkaa
/- THE CELL 'sum', in the pinned program and in every row, IS THE sha256 OF THE DUMP (.gsa) THAT YtkanjgmocmhlkaaProg.lean LOADS. Nothing in Lean hashes anything: it is a label: what it is worth is what the hold of that sum in a sandbox is worth. -/
noncomputable def Try.pinned : Pinned := { name := "ytkanjgmocmhlkaa", sum := "1fa8af8a515c14cfe39e1758ff70b60641dc001f38a7da1f08d6130b4342d09b", checked := Try.checked }
namespace Rows
def none {H : Type} : Left H := { results := [], args := [] }

/-- 'laws.FnExactStackPosets': WHATEVER THE INPUT: true; the input reads as it did. -/
def fnExactStackPosetsSpec : ChangeSpec := { name := "fnExactStackPosets", fn := fun _ => fun
  | [d1, d2] => { results := [.lit (.bool true)], args := [d1, d2] }
  | _ => none }
def fnExactStackPosetsRow : OpenClaim := { program := "ytkanjgmocmhlkaa", sum := "1fa8af8a515c14cfe39e1758ff70b60641dc001f38a7da1f08d6130b4342d09b", func := "loop.example/g01089/laws.FnExactStackPosets", spec := "fnExactStackPosets", unfollowed := true, recurses := true, apart := false }
def FnExactStackPosetsSaid : Prop := fnExactStackPosetsRow.holds Try.pinned (OpenSpec.ofChange fnExactStackPosetsSpec)

/-- ITS FALSE NEIGHBOUR: 'it returns false'. Refute it at one input. -/
def fnExactStackPosetsWrong : ChangeSpec := { name := "fnExactStackPosets", fn := fun _ => fun
  | [d1, d2] => { results := [.lit (.bool false)], args := [d1, d2] }
  | _ => none }
def FnExactStackPosetsWrongFalsely : Prop := fnExactStackPosetsRow.holds Try.pinned (OpenSpec.ofChange fnExactStackPosetsWrong)

/-- 'laws.FnExactAntichainsOf': WHATEVER THE INPUT: true; the input reads as it did. -/
def fnExactAntichainsOfSpec : ChangeSpec := { name := "fnExactAntichainsOf", fn := fun _ => fun
  | [d] => { results := [.lit (.bool true)], args := [d] }
  | _ => none }
def fnExactAntichainsOfRow : OpenClaim := { program := "ytkanjgmocmhlkaa", sum := "1fa8af8a515c14cfe39e1758ff70b60641dc001f38a7da1f08d6130b4342d09b", func := "loop.example/g01089/laws.FnExactAntichainsOf", spec := "fnExactAntichainsOf", unfollowed := true, recurses := true, apart := false }
def FnExactAntichainsOfSaid : Prop := fnExactAntichainsOfRow.holds Try.pinned (OpenSpec.ofChange fnExactAntichainsOfSpec)

/-- ITS FALSE NEIGHBOUR: 'it returns false'. Refute it at one input. -/
def fnExactAntichainsOfWrong : ChangeSpec := { name := "fnExactAntichainsOf", fn := fun _ => fun
  | [d] => { results := [.lit (.bool false)], args := [d] }
  | _ => none }
def FnExactAntichainsOfWrongFalsely : Prop := fnExactAntichainsOfRow.holds Try.pinned (OpenSpec.ofChange fnExactAntichainsOfWrong)

/-- 'laws.FnExactUpsetAlgebra': WHATEVER THE INPUT: true; the input reads as it did. -/
def fnExactUpsetAlgebraSpec : ChangeSpec := { name := "fnExactUpsetAlgebra", fn := fun _ => fun
  | [d] => { results := [.lit (.bool true)], args := [d] }
  | _ => none }
def fnExactUpsetAlgebraRow : OpenClaim := { program := "ytkanjgmocmhlkaa", sum := "1fa8af8a515c14cfe39e1758ff70b60641dc001f38a7da1f08d6130b4342d09b", func := "loop.example/g01089/laws.FnExactUpsetAlgebra", spec := "fnExactUpsetAlgebra", unfollowed := true, recurses := true, apart := false }
def FnExactUpsetAlgebraSaid : Prop := fnExactUpsetAlgebraRow.holds Try.pinned (OpenSpec.ofChange fnExactUpsetAlgebraSpec)

/-- ITS FALSE NEIGHBOUR: 'it returns false'. Refute it at one input. -/
def fnExactUpsetAlgebraWrong : ChangeSpec := { name := "fnExactUpsetAlgebra", fn := fun _ => fun
  | [d] => { results := [.lit (.bool false)], args := [d] }
  | _ => none }
def FnExactUpsetAlgebraWrongFalsely : Prop := fnExactUpsetAlgebraRow.holds Try.pinned (OpenSpec.ofChange fnExactUpsetAlgebraWrong)

/-- 'laws.FnExactQuotientPoset': WHATEVER THE INPUT: true; the input reads as it did. -/
def fnExactQuotientPosetSpec : ChangeSpec := { name := "fnExactQuotientPoset", fn := fun _ => fun
  | [d1, d2] => { results := [.lit (.bool true)], args := [d1, d2] }
  | _ => none }
def fnExactQuotientPosetRow : OpenClaim := { program := "ytkanjgmocmhlkaa", sum := "1fa8af8a515c14cfe39e1758ff70b60641dc001f38a7da1f08d6130b4342d09b", func := "loop.example/g01089/laws.FnExactQuotientPoset", spec := "fnExactQuotientPoset", unfollowed := true, recurses := true, apart := false }
def FnExactQuotientPosetSaid : Prop := fnExactQuotientPosetRow.holds Try.pinned (OpenSpec.ofChange fnExactQuotientPosetSpec)

/-- ITS FALSE NEIGHBOUR: 'it returns false'. Refute it at one input. -/
def fnExactQuotientPosetWrong : ChangeSpec := { name := "fnExactQuotientPoset", fn := fun _ => fun
  | [d1, d2] => { results := [.lit (.bool false)], args := [d1, d2] }
  | _ => none }
def FnExactQuotientPosetWrongFalsely : Prop := fnExactQuotientPosetRow.holds Try.pinned (OpenSpec.ofChange fnExactQuotientPosetWrong)

/-- 'laws.FnExactIsPosetMorphism': WHATEVER THE INPUT: true; the input reads as it did. -/
def fnExactIsPosetMorphismSpec : ChangeSpec := { name := "fnExactIsPosetMorphism", fn := fun _ => fun
  | [d1, d2, d3] => { results := [.lit (.bool true)], args := [d1, d2, d3] }
  | _ => none }
def fnExactIsPosetMorphismRow : OpenClaim := { program := "ytkanjgmocmhlkaa", sum := "1fa8af8a515c14cfe39e1758ff70b60641dc001f38a7da1f08d6130b4342d09b", func := "loop.example/g01089/laws.FnExactIsPosetMorphism", spec := "fnExactIsPosetMorphism", unfollowed := true, recurses := true, apart := false }
def FnExactIsPosetMorphismSaid : Prop := fnExactIsPosetMorphismRow.holds Try.pinned (OpenSpec.ofChange fnExactIsPosetMorphismSpec)

/-- ITS FALSE NEIGHBOUR: 'it returns false'. Refute it at one input. -/
def fnExactIsPosetMorphismWrong : ChangeSpec := { name := "fnExactIsPosetMorphism", fn := fun _ => fun
  | [d1, d2, d3] => { results := [.lit (.bool false)], args := [d1, d2, d3] }
  | _ => none }
def FnExactIsPosetMorphismWrongFalsely : Prop := fnExactIsPosetMorphismRow.holds Try.pinned (OpenSpec.ofChange fnExactIsPosetMorphismWrong)

/-- 'laws.FnExactCorrectPartitions': WHATEVER THE INPUT: true; the input reads as it did. -/
def fnExactCorrectPartitionsSpec : ChangeSpec := { name := "fnExactCorrectPartitions", fn := fun _ => fun
  | [d] => { results := [.lit (.bool true)], args := [d] }
  | _ => none }
def fnExactCorrectPartitionsRow : OpenClaim := { program := "ytkanjgmocmhlkaa", sum := "1fa8af8a515c14cfe39e1758ff70b60641dc001f38a7da1f08d6130b4342d09b", func := "loop.example/g01089/laws.FnExactCorrectPartitions", spec := "fnExactCorrectPartitions", unfollowed := true, recurses := true, apart := false }
def FnExactCorrectPartitionsSaid : Prop := fnExactCorrectPartitionsRow.holds Try.pinned (OpenSpec.ofChange fnExactCorrectPartitionsSpec)

/-- ITS FALSE NEIGHBOUR: 'it returns false'. Refute it at one input. -/
def fnExactCorrectPartitionsWrong : ChangeSpec := { name := "fnExactCorrectPartitions", fn := fun _ => fun
  | [d] => { results := [.lit (.bool false)], args := [d] }
  | _ => none }
def FnExactCorrectPartitionsWrongFalsely : Prop := fnExactCorrectPartitionsRow.holds Try.pinned (OpenSpec.ofChange fnExactCorrectPartitionsWrong)

/-- 'laws.FnExactShowingValues': WHATEVER THE INPUT: true; the input reads as it did. -/
def fnExactShowingValuesSpec : ChangeSpec := { name := "fnExactShowingValues", fn := fun _ => fun
  | [d1, d2, d3, d4] => { results := [.lit (.bool true)], args := [d1, d2, d3, d4] }
  | _ => none }
def fnExactShowingValuesRow : OpenClaim := { program := "ytkanjgmocmhlkaa", sum := "1fa8af8a515c14cfe39e1758ff70b60641dc001f38a7da1f08d6130b4342d09b", func := "loop.example/g01089/laws.FnExactShowingValues", spec := "fnExactShowingValues", unfollowed := true, recurses := true, apart := false }
def FnExactShowingValuesSaid : Prop := fnExactShowingValuesRow.holds Try.pinned (OpenSpec.ofChange fnExactShowingValuesSpec)

/-- ITS FALSE NEIGHBOUR: 'it returns false'. Refute it at one input. -/
def fnExactShowingValuesWrong : ChangeSpec := { name := "fnExactShowingValues", fn := fun _ => fun
  | [d1, d2, d3, d4] => { results := [.lit (.bool false)], args := [d1, d2, d3, d4] }
  | _ => none }
def FnExactShowingValuesWrongFalsely : Prop := fnExactShowingValuesRow.holds Try.pinned (OpenSpec.ofChange fnExactShowingValuesWrong)

/- THE SECOND FORM. 'bulk': how many values and letters a reading holds, each counted each time it is reached (what is shared counts as often as it is met; a slice's spare places count too). A statement '..UptoSaid' is the law's where the arguments, and the package variables that the reading takes, are together of bulk at most 1048576: NARROWER than '..Said'. Prove '..Said' where nothing that the law and all that it calls make is longer than what came in: it says more and counts as full. Else prove '..UptoSaid'. A law counts once. -/
mutual
def uptoBulk {H : Type} : DataW H → Nat
  | .lit (.string bytes) => bytes.length + 1
  | .lit _ => 1
  | .nil => 1
  | .ptr d => uptoBulk d + 1
  | .slice elems spare => uptoBulkAll elems + uptoBulkAll spare + 1
  | .agg parts => uptoBulkAll parts + 1
  | .iface _ d => uptoBulk d + 1
  | .map entries => uptoBulkEntries entries + 1
  | .held _ => 1
def uptoBulkAll {H : Type} : List (DataW H) → Nat
  | [] => 0
  | d :: r => uptoBulk d + uptoBulkAll r
def uptoBulkEntries {H : Type} : List (Lit × DataW H) → Nat
  | [] => 0
  | x :: r => uptoBulkEntry x + uptoBulkEntries r
def uptoBulkEntry {H : Type} : Lit × DataW H → Nat
  | (.string bytes, d) => bytes.length + uptoBulk d + 1
  | (_, d) => uptoBulk d + 1
 end
def uptoSmall : (H : Type) → List (DataW H) → Bool := fun _ ds => decide (uptoBulkAll ds ≤ 1048576)
def OpenSpec.upto (s : _root_.Go.ChangeSpec) : _root_.Go.OpenSpec := { _root_.Go.OpenSpec.ofChange s with cond := some uptoSmall }

/-- 'laws.FnExactStackPosets', WHERE WHAT IT READS IS OF BULK AT MOST 1048576: true; the input reads as it did. -/
def fnExactStackPosetsUptoRow : OpenClaim := { program := "ytkanjgmocmhlkaa", sum := "1fa8af8a515c14cfe39e1758ff70b60641dc001f38a7da1f08d6130b4342d09b", func := "loop.example/g01089/laws.FnExactStackPosets", spec := "fnExactStackPosets", unfollowed := true, recurses := true, apart := false, narrowed := true }
def FnExactStackPosetsUptoSaid : Prop := fnExactStackPosetsUptoRow.holds Try.pinned (OpenSpec.upto fnExactStackPosetsSpec)

/-- 'laws.FnExactAntichainsOf', WHERE WHAT IT READS IS OF BULK AT MOST 1048576: true; the input reads as it did. -/
def fnExactAntichainsOfUptoRow : OpenClaim := { program := "ytkanjgmocmhlkaa", sum := "1fa8af8a515c14cfe39e1758ff70b60641dc001f38a7da1f08d6130b4342d09b", func := "loop.example/g01089/laws.FnExactAntichainsOf", spec := "fnExactAntichainsOf", unfollowed := true, recurses := true, apart := false, narrowed := true }
def FnExactAntichainsOfUptoSaid : Prop := fnExactAntichainsOfUptoRow.holds Try.pinned (OpenSpec.upto fnExactAntichainsOfSpec)

/-- 'laws.FnExactUpsetAlgebra', WHERE WHAT IT READS IS OF BULK AT MOST 1048576: true; the input reads as it did. -/
def fnExactUpsetAlgebraUptoRow : OpenClaim := { program := "ytkanjgmocmhlkaa", sum := "1fa8af8a515c14cfe39e1758ff70b60641dc001f38a7da1f08d6130b4342d09b", func := "loop.example/g01089/laws.FnExactUpsetAlgebra", spec := "fnExactUpsetAlgebra", unfollowed := true, recurses := true, apart := false, narrowed := true }
def FnExactUpsetAlgebraUptoSaid : Prop := fnExactUpsetAlgebraUptoRow.holds Try.pinned (OpenSpec.upto fnExactUpsetAlgebraSpec)

/-- 'laws.FnExactQuotientPoset', WHERE WHAT IT READS IS OF BULK AT MOST 1048576: true; the input reads as it did. -/
def fnExactQuotientPosetUptoRow : OpenClaim := { program := "ytkanjgmocmhlkaa", sum := "1fa8af8a515c14cfe39e1758ff70b60641dc001f38a7da1f08d6130b4342d09b", func := "loop.example/g01089/laws.FnExactQuotientPoset", spec := "fnExactQuotientPoset", unfollowed := true, recurses := true, apart := false, narrowed := true }
def FnExactQuotientPosetUptoSaid : Prop := fnExactQuotientPosetUptoRow.holds Try.pinned (OpenSpec.upto fnExactQuotientPosetSpec)

/-- 'laws.FnExactIsPosetMorphism', WHERE WHAT IT READS IS OF BULK AT MOST 1048576: true; the input reads as it did. -/
def fnExactIsPosetMorphismUptoRow : OpenClaim := { program := "ytkanjgmocmhlkaa", sum := "1fa8af8a515c14cfe39e1758ff70b60641dc001f38a7da1f08d6130b4342d09b", func := "loop.example/g01089/laws.FnExactIsPosetMorphism", spec := "fnExactIsPosetMorphism", unfollowed := true, recurses := true, apart := false, narrowed := true }
def FnExactIsPosetMorphismUptoSaid : Prop := fnExactIsPosetMorphismUptoRow.holds Try.pinned (OpenSpec.upto fnExactIsPosetMorphismSpec)

/-- 'laws.FnExactCorrectPartitions', WHERE WHAT IT READS IS OF BULK AT MOST 1048576: true; the input reads as it did. -/
def fnExactCorrectPartitionsUptoRow : OpenClaim := { program := "ytkanjgmocmhlkaa", sum := "1fa8af8a515c14cfe39e1758ff70b60641dc001f38a7da1f08d6130b4342d09b", func := "loop.example/g01089/laws.FnExactCorrectPartitions", spec := "fnExactCorrectPartitions", unfollowed := true, recurses := true, apart := false, narrowed := true }
def FnExactCorrectPartitionsUptoSaid : Prop := fnExactCorrectPartitionsUptoRow.holds Try.pinned (OpenSpec.upto fnExactCorrectPartitionsSpec)

/-- 'laws.FnExactShowingValues', WHERE WHAT IT READS IS OF BULK AT MOST 1048576: true; the input reads as it did. -/
def fnExactShowingValuesUptoRow : OpenClaim := { program := "ytkanjgmocmhlkaa", sum := "1fa8af8a515c14cfe39e1758ff70b60641dc001f38a7da1f08d6130b4342d09b", func := "loop.example/g01089/laws.FnExactShowingValues", spec := "fnExactShowingValues", unfollowed := true, recurses := true, apart := false, narrowed := true }
def FnExactShowingValuesUptoSaid : Prop := fnExactShowingValuesUptoRow.holds Try.pinned (OpenSpec.upto fnExactShowingValuesSpec)

end Rows
end Go.Proofs.Ytkanjgmocmhlkaa
