/-
  No cell of these rows narrows 'for every input' (looked for: loops, veiled, ifaces, maps, wideKeys, modest, calm, conditions, laid).
  DERIVED. THE GIVEN ROWS OF THIS SEAT. 7 by the template 'for every input the law returns true; each argument reads behind the call as it read before'; 0 by the template 'total and deterministic' (their statements: YtbkfbpddeedgoaaTotals.lean).
  GIVEN WITH THE SEED: the statements are not yours to turn. If you find one false, say at which input.
  Laid BY PROGRAM, IN A SANDBOX (cutbox-rows.mjs): the forced cells as the released guide's own fill.sh prints them over the translation c0e8ae9c311264ca… (all of the seat's roots in one cut). By AI agents, Wed Nov 11 2026. No macro, syntax, notation, axiom, sorry.
-/
import Derived.Test.YtbkfbpddeedgoaaChecked
import GoSem.Claim
import GoSem.ClaimJoined
import GoSem.ClaimMapViews
import Derived.JoinedTies
import Derived.KernelRfl
namespace Go.Proofs.Ytbkfbpddeedgoaa
/- THE CELL 'sum', in the pinned program and in every row, IS THE sha256 OF THE DUMP (.gsa) THAT YtbkfbpddeedgoaaProg.lean LOADS. Nothing in Lean hashes anything: it is a label: what it is worth is what the hold of that sum in a sandbox is worth. -/
noncomputable def Try.pinned : Pinned := { name := "ytbkfbpddeedgoaa", sum := "c0e8ae9c311264ca1cf69e655c2622b4d11e0cad9c92b2305da85e9886ae2f65", checked := Try.checked }
namespace Rows
def none {H : Type} : Left H := { results := [], args := [] }

/-- 'laws.FnExactIsBelowIndex': WHATEVER THE INPUT: true; the input reads as it did. -/
def fnExactIsBelowIndexSpec : ChangeSpec := { name := "fnExactIsBelowIndex", fn := fun _ => fun
  | [d1, d2] => { results := [.lit (.bool true)], args := [d1, d2] }
  | _ => none }
def fnExactIsBelowIndexRow : OpenClaim := { program := "ytbkfbpddeedgoaa", sum := "c0e8ae9c311264ca1cf69e655c2622b4d11e0cad9c92b2305da85e9886ae2f65", func := "loop.example/g01089/laws.FnExactIsBelowIndex", spec := "fnExactIsBelowIndex", apart := false }
def FnExactIsBelowIndexSaid : Prop := fnExactIsBelowIndexRow.holds Try.pinned (OpenSpec.ofChange fnExactIsBelowIndexSpec)

/-- ITS FALSE NEIGHBOUR: 'it returns false'. Refute it at one input. -/
def fnExactIsBelowIndexWrong : ChangeSpec := { name := "fnExactIsBelowIndex", fn := fun _ => fun
  | [d1, d2] => { results := [.lit (.bool false)], args := [d1, d2] }
  | _ => none }
def FnExactIsBelowIndexWrongFalsely : Prop := fnExactIsBelowIndexRow.holds Try.pinned (OpenSpec.ofChange fnExactIsBelowIndexWrong)

/-- 'laws.FnExactLadderPoset': WHATEVER THE INPUT: true; the input reads as it did. -/
def fnExactLadderPosetSpec : ChangeSpec := { name := "fnExactLadderPoset", fn := fun _ => fun
  | [d] => { results := [.lit (.bool true)], args := [d] }
  | _ => none }
def fnExactLadderPosetRow : OpenClaim := { program := "ytbkfbpddeedgoaa", sum := "c0e8ae9c311264ca1cf69e655c2622b4d11e0cad9c92b2305da85e9886ae2f65", func := "loop.example/g01089/laws.FnExactLadderPoset", spec := "fnExactLadderPoset", apart := false }
def FnExactLadderPosetSaid : Prop := fnExactLadderPosetRow.holds Try.pinned (OpenSpec.ofChange fnExactLadderPosetSpec)

/-- ITS FALSE NEIGHBOUR: 'it returns false'. Refute it at one input. -/
def fnExactLadderPosetWrong : ChangeSpec := { name := "fnExactLadderPoset", fn := fun _ => fun
  | [d] => { results := [.lit (.bool false)], args := [d] }
  | _ => none }
def FnExactLadderPosetWrongFalsely : Prop := fnExactLadderPosetRow.holds Try.pinned (OpenSpec.ofChange fnExactLadderPosetWrong)

/-- 'laws.FnExactNishimuraFormula': WHATEVER THE INPUT: true; the input reads as it did. -/
def fnExactNishimuraFormulaSpec : ChangeSpec := { name := "fnExactNishimuraFormula", fn := fun _ => fun
  | [d] => { results := [.lit (.bool true)], args := [d] }
  | _ => none }
def fnExactNishimuraFormulaRow : OpenClaim := { program := "ytbkfbpddeedgoaa", sum := "c0e8ae9c311264ca1cf69e655c2622b4d11e0cad9c92b2305da85e9886ae2f65", func := "loop.example/g01089/laws.FnExactNishimuraFormula", spec := "fnExactNishimuraFormula", recurses := true, apart := false }
def FnExactNishimuraFormulaSaid : Prop := fnExactNishimuraFormulaRow.holds Try.pinned (OpenSpec.ofChange fnExactNishimuraFormulaSpec)

/-- ITS FALSE NEIGHBOUR: 'it returns false'. Refute it at one input. -/
def fnExactNishimuraFormulaWrong : ChangeSpec := { name := "fnExactNishimuraFormula", fn := fun _ => fun
  | [d] => { results := [.lit (.bool false)], args := [d] }
  | _ => none }
def FnExactNishimuraFormulaWrongFalsely : Prop := fnExactNishimuraFormulaRow.holds Try.pinned (OpenSpec.ofChange fnExactNishimuraFormulaWrong)

/-- 'laws.FnExactJoinIndices': WHATEVER THE INPUT: true; the input reads as it did. -/
def fnExactJoinIndicesSpec : ChangeSpec := { name := "fnExactJoinIndices", fn := fun _ => fun
  | [d1, d2, d3] => { results := [.lit (.bool true)], args := [d1, d2, d3] }
  | _ => none }
def fnExactJoinIndicesRow : OpenClaim := { program := "ytbkfbpddeedgoaa", sum := "c0e8ae9c311264ca1cf69e655c2622b4d11e0cad9c92b2305da85e9886ae2f65", func := "loop.example/g01089/laws.FnExactJoinIndices", spec := "fnExactJoinIndices", apart := false }
def FnExactJoinIndicesSaid : Prop := fnExactJoinIndicesRow.holds Try.pinned (OpenSpec.ofChange fnExactJoinIndicesSpec)

/-- ITS FALSE NEIGHBOUR: 'it returns false'. Refute it at one input. -/
def fnExactJoinIndicesWrong : ChangeSpec := { name := "fnExactJoinIndices", fn := fun _ => fun
  | [d1, d2, d3] => { results := [.lit (.bool false)], args := [d1, d2, d3] }
  | _ => none }
def FnExactJoinIndicesWrongFalsely : Prop := fnExactJoinIndicesRow.holds Try.pinned (OpenSpec.ofChange fnExactJoinIndicesWrong)

/-- 'laws.FnExactRootsOf': WHATEVER THE INPUT: true; the input reads as it did. -/
def fnExactRootsOfSpec : ChangeSpec := { name := "fnExactRootsOf", fn := fun _ => fun
  | [d] => { results := [.lit (.bool true)], args := [d] }
  | _ => none }
def fnExactRootsOfRow : OpenClaim := { program := "ytbkfbpddeedgoaa", sum := "c0e8ae9c311264ca1cf69e655c2622b4d11e0cad9c92b2305da85e9886ae2f65", func := "loop.example/g01089/laws.FnExactRootsOf", spec := "fnExactRootsOf", unfollowed := true, recurses := true, apart := false }
def FnExactRootsOfSaid : Prop := fnExactRootsOfRow.holds Try.pinned (OpenSpec.ofChange fnExactRootsOfSpec)

/-- ITS FALSE NEIGHBOUR: 'it returns false'. Refute it at one input. -/
def fnExactRootsOfWrong : ChangeSpec := { name := "fnExactRootsOf", fn := fun _ => fun
  | [d] => { results := [.lit (.bool false)], args := [d] }
  | _ => none }
def FnExactRootsOfWrongFalsely : Prop := fnExactRootsOfRow.holds Try.pinned (OpenSpec.ofChange fnExactRootsOfWrong)

/-- 'laws.FnExactSubstituteIndex': WHATEVER THE INPUT: true; the input reads as it did. -/
def fnExactSubstituteIndexSpec : ChangeSpec := { name := "fnExactSubstituteIndex", fn := fun _ => fun
  | [d1, d2] => { results := [.lit (.bool true)], args := [d1, d2] }
  | _ => none }
def fnExactSubstituteIndexRow : OpenClaim := { program := "ytbkfbpddeedgoaa", sum := "c0e8ae9c311264ca1cf69e655c2622b4d11e0cad9c92b2305da85e9886ae2f65", func := "loop.example/g01089/laws.FnExactSubstituteIndex", spec := "fnExactSubstituteIndex", unfollowed := true, recurses := true, apart := false }
def FnExactSubstituteIndexSaid : Prop := fnExactSubstituteIndexRow.holds Try.pinned (OpenSpec.ofChange fnExactSubstituteIndexSpec)

/-- ITS FALSE NEIGHBOUR: 'it returns false'. Refute it at one input. -/
def fnExactSubstituteIndexWrong : ChangeSpec := { name := "fnExactSubstituteIndex", fn := fun _ => fun
  | [d1, d2] => { results := [.lit (.bool false)], args := [d1, d2] }
  | _ => none }
def FnExactSubstituteIndexWrongFalsely : Prop := fnExactSubstituteIndexRow.holds Try.pinned (OpenSpec.ofChange fnExactSubstituteIndexWrong)

/-- 'laws.FnExactLadderValue': WHATEVER THE INPUT: true; the input reads as it did. -/
def fnExactLadderValueSpec : ChangeSpec := { name := "fnExactLadderValue", fn := fun _ => fun
  | [d] => { results := [.lit (.bool true)], args := [d] }
  | _ => none }
def fnExactLadderValueRow : OpenClaim := { program := "ytbkfbpddeedgoaa", sum := "c0e8ae9c311264ca1cf69e655c2622b4d11e0cad9c92b2305da85e9886ae2f65", func := "loop.example/g01089/laws.FnExactLadderValue", spec := "fnExactLadderValue", unfollowed := true, recurses := true, apart := false }
def FnExactLadderValueSaid : Prop := fnExactLadderValueRow.holds Try.pinned (OpenSpec.ofChange fnExactLadderValueSpec)

/-- ITS FALSE NEIGHBOUR: 'it returns false'. Refute it at one input. -/
def fnExactLadderValueWrong : ChangeSpec := { name := "fnExactLadderValue", fn := fun _ => fun
  | [d] => { results := [.lit (.bool false)], args := [d] }
  | _ => none }
def FnExactLadderValueWrongFalsely : Prop := fnExactLadderValueRow.holds Try.pinned (OpenSpec.ofChange fnExactLadderValueWrong)

/- THE SECOND FORM. 'bulk': how many values and letters a reading holds, each counted each time it is reached (what is shared counts as often as it is met; a slice's spare places count too). A statement '..UptoSaid' is the law's where the arguments, and the package variables that the reading takes, are together of bulk at most 1048576: NARROWER than '..Said'. Prove '..Said' where nothing that the law and all that it calls make is longer than what came in: it says more and counts as full. Else prove '..UptoSaid'. A law counts once. -/
mutual
def uptoBulk {H : Type} : DataW H → Nat
  | .lit (.string bytes) => bytes.length + 1
  | .lit _ => 1
  | .nil => 1
  | .ptr d => uptoBulk d + 1
  | .slice elems spare => uptoBulkAll elems + uptoBulkAll spare + 1
  | .agg parts => uptoBulkAll parts + 1
  | .iface _ d => uptoBulk d + 1
  | .map entries => uptoBulkEntries entries + 1
  | .held _ => 1
def uptoBulkAll {H : Type} : List (DataW H) → Nat
  | [] => 0
  | d :: r => uptoBulk d + uptoBulkAll r
def uptoBulkEntries {H : Type} : List (Lit × DataW H) → Nat
  | [] => 0
  | x :: r => uptoBulkEntry x + uptoBulkEntries r
def uptoBulkEntry {H : Type} : Lit × DataW H → Nat
  | (.string bytes, d) => bytes.length + uptoBulk d + 1
  | (_, d) => uptoBulk d + 1
 end
def uptoSmall : (H : Type) → List (DataW H) → Bool := fun _ ds => decide (uptoBulkAll ds ≤ 1048576)
def OpenSpec.upto (s : _root_.Go.ChangeSpec) : _root_.Go.OpenSpec := { _root_.Go.OpenSpec.ofChange s with cond := some uptoSmall }

/-- 'laws.FnExactIsBelowIndex', WHERE WHAT IT READS IS OF BULK AT MOST 1048576: true; the input reads as it did. -/
def fnExactIsBelowIndexUptoRow : OpenClaim := { program := "ytbkfbpddeedgoaa", sum := "c0e8ae9c311264ca1cf69e655c2622b4d11e0cad9c92b2305da85e9886ae2f65", func := "loop.example/g01089/laws.FnExactIsBelowIndex", spec := "fnExactIsBelowIndex", apart := false, narrowed := true }
def FnExactIsBelowIndexUptoSaid : Prop := fnExactIsBelowIndexUptoRow.holds Try.pinned (OpenSpec.upto fnExactIsBelowIndexSpec)

/-- 'laws.FnExactLadderPoset', WHERE WHAT IT READS IS OF BULK AT MOST 1048576: true; the input reads as it did. -/
def fnExactLadderPosetUptoRow : OpenClaim := { program := "ytbkfbpddeedgoaa", sum := "c0e8ae9c311264ca1cf69e655c2622b4d11e0cad9c92b2305da85e9886ae2f65", func := "loop.example/g01089/laws.FnExactLadderPoset", spec := "fnExactLadderPoset", apart := false, narrowed := true }
def FnExactLadderPosetUptoSaid : Prop := fnExactLadderPosetUptoRow.holds Try.pinned (OpenSpec.upto fnExactLadderPosetSpec)

/-- 'laws.FnExactNishimuraFormula', WHERE WHAT IT READS IS OF BULK AT MOST 1048576: true; the input reads as it did. -/
def fnExactNishimuraFormulaUptoRow : OpenClaim := { program := "ytbkfbpddeedgoaa", sum := "c0e8ae9c311264ca1cf69e655c2622b4d11e0cad9c92b2305da85e9886ae2f65", func := "loop.example/g01089/laws.FnExactNishimuraFormula", spec := "fnExactNishimuraFormula", recurses := true, apart := false, narrowed := true }
def FnExactNishimuraFormulaUptoSaid : Prop := fnExactNishimuraFormulaUptoRow.holds Try.pinned (OpenSpec.upto fnExactNishimuraFormulaSpec)

/-- 'laws.FnExactJoinIndices', WHERE WHAT IT READS IS OF BULK AT MOST 1048576: true; the input reads as it did. -/
def fnExactJoinIndicesUptoRow : OpenClaim := { program := "ytbkfbpddeedgoaa", sum := "c0e8ae9c311264ca1cf69e655c2622b4d11e0cad9c92b2305da85e9886ae2f65", func := "loop.example/g01089/laws.FnExactJoinIndices", spec := "fnExactJoinIndices", apart := false, narrowed := true }
def FnExactJoinIndicesUptoSaid : Prop := fnExactJoinIndicesUptoRow.holds Try.pinned (OpenSpec.upto fnExactJoinIndicesSpec)

/-- 'laws.FnExactRootsOf', WHERE WHAT IT READS IS OF BULK AT MOST 1048576: true; the input reads as it did. -/
def fnExactRootsOfUptoRow : OpenClaim := { program := "ytbkfbpddeedgoaa", sum := "c0e8ae9c311264ca1cf69e655c2622b4d11e0cad9c92b2305da85e9886ae2f65", func := "loop.example/g01089/laws.FnExactRootsOf", spec := "fnExactRootsOf", unfollowed := true, recurses := true, apart := false, narrowed := true }
def FnExactRootsOfUptoSaid : Prop := fnExactRootsOfUptoRow.holds Try.pinned (OpenSpec.upto fnExactRootsOfSpec)

/-- 'laws.FnExactSubstituteIndex', WHERE WHAT IT READS IS OF BULK AT MOST 1048576: true; the input reads as it did. -/
def fnExactSubstituteIndexUptoRow : OpenClaim := { program := "ytbkfbpddeedgoaa", sum := "c0e8ae9c311264ca1cf69e655c2622b4d11e0cad9c92b2305da85e9886ae2f65", func := "loop.example/g01089/laws.FnExactSubstituteIndex", spec := "fnExactSubstituteIndex", unfollowed := true, recurses := true, apart := false, narrowed := true }
def FnExactSubstituteIndexUptoSaid : Prop := fnExactSubstituteIndexUptoRow.holds Try.pinned (OpenSpec.upto fnExactSubstituteIndexSpec)

/-- 'laws.FnExactLadderValue', WHERE WHAT IT READS IS OF BULK AT MOST 1048576: true; the input reads as it did. -/
def fnExactLadderValueUptoRow : OpenClaim := { program := "ytbkfbpddeedgoaa", sum := "c0e8ae9c311264ca1cf69e655c2622b4d11e0cad9c92b2305da85e9886ae2f65", func := "loop.example/g01089/laws.FnExactLadderValue", spec := "fnExactLadderValue", unfollowed := true, recurses := true, apart := false, narrowed := true }
def FnExactLadderValueUptoSaid : Prop := fnExactLadderValueUptoRow.holds Try.pinned (OpenSpec.upto fnExactLadderValueSpec)

end Rows
end Go.Proofs.Ytbkfbpddeedgoaa
