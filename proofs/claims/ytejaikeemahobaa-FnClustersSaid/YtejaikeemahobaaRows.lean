/-
  No cell of these rows narrows 'for every input' (looked for: loops, veiled, ifaces, maps, wideKeys, modest, calm, conditions, laid).
  DERIVED. THE GIVEN ROWS OF THIS SEAT. 5 by the template 'for every input the law returns true; each argument reads behind the call as it read before'; 0 by the template 'total and deterministic' (their statements: YtejaikeemahobaaTotals.lean).
  GIVEN WITH THE SEED: the statements are not yours to turn. If you find one false, say at which input.
  Laid BY PROGRAM, IN A SANDBOX (cutbox-rows.mjs): the forced cells as the released guide's own fill.sh prints them over the translation 29e92a088970d1fd… (all of the seat's roots in one cut). By AI agents, Wed Nov 11 2026. No macro, syntax, notation, axiom, sorry.
-/
import Derived.Test.YtejaikeemahobaaChecked
import GoSem.Claim
import GoSem.ClaimJoined
import GoSem.ClaimMapViews
import Derived.JoinedTies
import Derived.KernelRfl
namespace Go.Proofs.Ytejaikeemahobaa
/- THE CELL 'sum', in the pinned program and in every row, IS THE sha256 OF THE DUMP (.gsa) THAT YtejaikeemahobaaProg.lean LOADS. Nothing in Lean hashes anything: it is a label: what it is worth is what the hold of that sum in a sandbox is worth. -/
noncomputable def Try.pinned : Pinned := { name := "ytejaikeemahobaa", sum := "29e92a088970d1fd23b85109d351cd6b96aaf5bea1884111910342fb1f5261e7", checked := Try.checked }
namespace Rows
def none {H : Type} : Left H := { results := [], args := [] }

/-- 'laws.FnConsequences': WHATEVER THE INPUT: true; the input reads as it did. -/
def fnConsequencesSpec : ChangeSpec := { name := "fnConsequences", fn := fun _ => fun
  | [d] => { results := [.lit (.bool true)], args := [d] }
  | _ => none }
def fnConsequencesRow : OpenClaim := { program := "ytejaikeemahobaa", sum := "29e92a088970d1fd23b85109d351cd6b96aaf5bea1884111910342fb1f5261e7", func := "loop.example/g01089/laws.FnConsequences", spec := "fnConsequences", unfollowed := true, recurses := true, apart := false }
def FnConsequencesSaid : Prop := fnConsequencesRow.holds Try.pinned (OpenSpec.ofChange fnConsequencesSpec)

/-- ITS FALSE NEIGHBOUR: 'it returns false'. Refute it at one input. -/
def fnConsequencesWrong : ChangeSpec := { name := "fnConsequences", fn := fun _ => fun
  | [d] => { results := [.lit (.bool false)], args := [d] }
  | _ => none }
def FnConsequencesWrongFalsely : Prop := fnConsequencesRow.holds Try.pinned (OpenSpec.ofChange fnConsequencesWrong)

/-- 'laws.FnPolarity': WHATEVER THE INPUT: true; the input reads as it did. -/
def fnPolaritySpec : ChangeSpec := { name := "fnPolarity", fn := fun _ => fun
  | [d] => { results := [.lit (.bool true)], args := [d] }
  | _ => none }
def fnPolarityRow : OpenClaim := { program := "ytejaikeemahobaa", sum := "29e92a088970d1fd23b85109d351cd6b96aaf5bea1884111910342fb1f5261e7", func := "loop.example/g01089/laws.FnPolarity", spec := "fnPolarity", unfollowed := true, recurses := true, apart := false }
def FnPolaritySaid : Prop := fnPolarityRow.holds Try.pinned (OpenSpec.ofChange fnPolaritySpec)

/-- ITS FALSE NEIGHBOUR: 'it returns false'. Refute it at one input. -/
def fnPolarityWrong : ChangeSpec := { name := "fnPolarity", fn := fun _ => fun
  | [d] => { results := [.lit (.bool false)], args := [d] }
  | _ => none }
def FnPolarityWrongFalsely : Prop := fnPolarityRow.holds Try.pinned (OpenSpec.ofChange fnPolarityWrong)

/-- 'laws.FnNormalForms': WHATEVER THE INPUT: true; the input reads as it did. -/
def fnNormalFormsSpec : ChangeSpec := { name := "fnNormalForms", fn := fun _ => fun
  | [d] => { results := [.lit (.bool true)], args := [d] }
  | _ => none }
def fnNormalFormsRow : OpenClaim := { program := "ytejaikeemahobaa", sum := "29e92a088970d1fd23b85109d351cd6b96aaf5bea1884111910342fb1f5261e7", func := "loop.example/g01089/laws.FnNormalForms", spec := "fnNormalForms", unfollowed := true, recurses := true, apart := false }
def FnNormalFormsSaid : Prop := fnNormalFormsRow.holds Try.pinned (OpenSpec.ofChange fnNormalFormsSpec)

/-- ITS FALSE NEIGHBOUR: 'it returns false'. Refute it at one input. -/
def fnNormalFormsWrong : ChangeSpec := { name := "fnNormalForms", fn := fun _ => fun
  | [d] => { results := [.lit (.bool false)], args := [d] }
  | _ => none }
def FnNormalFormsWrongFalsely : Prop := fnNormalFormsRow.holds Try.pinned (OpenSpec.ofChange fnNormalFormsWrong)

/-- 'laws.FnTruthInParts': WHATEVER THE INPUT: true; the input reads as it did. -/
def fnTruthInPartsSpec : ChangeSpec := { name := "fnTruthInParts", fn := fun _ => fun
  | [d] => { results := [.lit (.bool true)], args := [d] }
  | _ => none }
def fnTruthInPartsRow : OpenClaim := { program := "ytejaikeemahobaa", sum := "29e92a088970d1fd23b85109d351cd6b96aaf5bea1884111910342fb1f5261e7", func := "loop.example/g01089/laws.FnTruthInParts", spec := "fnTruthInParts", unfollowed := true, recurses := true, apart := false }
def FnTruthInPartsSaid : Prop := fnTruthInPartsRow.holds Try.pinned (OpenSpec.ofChange fnTruthInPartsSpec)

/-- ITS FALSE NEIGHBOUR: 'it returns false'. Refute it at one input. -/
def fnTruthInPartsWrong : ChangeSpec := { name := "fnTruthInParts", fn := fun _ => fun
  | [d] => { results := [.lit (.bool false)], args := [d] }
  | _ => none }
def FnTruthInPartsWrongFalsely : Prop := fnTruthInPartsRow.holds Try.pinned (OpenSpec.ofChange fnTruthInPartsWrong)

/-- 'laws.FnClusters': WHATEVER THE INPUT: true; the input reads as it did. -/
def fnClustersSpec : ChangeSpec := { name := "fnClusters", fn := fun _ => fun
  | [d] => { results := [.lit (.bool true)], args := [d] }
  | _ => none }
def fnClustersRow : OpenClaim := { program := "ytejaikeemahobaa", sum := "29e92a088970d1fd23b85109d351cd6b96aaf5bea1884111910342fb1f5261e7", func := "loop.example/g01089/laws.FnClusters", spec := "fnClusters", unfollowed := true, recurses := true, apart := false }
def FnClustersSaid : Prop := fnClustersRow.holds Try.pinned (OpenSpec.ofChange fnClustersSpec)

/-- ITS FALSE NEIGHBOUR: 'it returns false'. Refute it at one input. -/
def fnClustersWrong : ChangeSpec := { name := "fnClusters", fn := fun _ => fun
  | [d] => { results := [.lit (.bool false)], args := [d] }
  | _ => none }
def FnClustersWrongFalsely : Prop := fnClustersRow.holds Try.pinned (OpenSpec.ofChange fnClustersWrong)

/- THE SECOND FORM. 'bulk': how many values and letters a reading holds, each counted each time it is reached (what is shared counts as often as it is met; a slice's spare places count too). A statement '..UptoSaid' is the law's where the arguments, and the package variables that the reading takes, are together of bulk at most 1048576: NARROWER than '..Said'. Prove '..Said' where nothing that the law and all that it calls make is longer than what came in: it says more and counts as full. Else prove '..UptoSaid'. A law counts once. -/
mutual
def uptoBulk {H : Type} : DataW H → Nat
  | .lit (.string bytes) => bytes.length + 1
  | .lit _ => 1
  | .nil => 1
  | .ptr d => uptoBulk d + 1
  | .slice elems spare => uptoBulkAll elems + uptoBulkAll spare + 1
  | .agg parts => uptoBulkAll parts + 1
  | .iface _ d => uptoBulk d + 1
  | .map entries => uptoBulkEntries entries + 1
  | .held _ => 1
def uptoBulkAll {H : Type} : List (DataW H) → Nat
  | [] => 0
  | d :: r => uptoBulk d + uptoBulkAll r
def uptoBulkEntries {H : Type} : List (Lit × DataW H) → Nat
  | [] => 0
  | x :: r => uptoBulkEntry x + uptoBulkEntries r
def uptoBulkEntry {H : Type} : Lit × DataW H → Nat
  | (.string bytes, d) => bytes.length + uptoBulk d + 1
  | (_, d) => uptoBulk d + 1
 end
def uptoSmall : (H : Type) → List (DataW H) → Bool := fun _ ds => decide (uptoBulkAll ds ≤ 1048576)
def OpenSpec.upto (s : _root_.Go.ChangeSpec) : _root_.Go.OpenSpec := { _root_.Go.OpenSpec.ofChange s with cond := some uptoSmall }

/-- 'laws.FnConsequences', WHERE WHAT IT READS IS OF BULK AT MOST 1048576: true; the input reads as it did. -/
def fnConsequencesUptoRow : OpenClaim := { program := "ytejaikeemahobaa", sum := "29e92a088970d1fd23b85109d351cd6b96aaf5bea1884111910342fb1f5261e7", func := "loop.example/g01089/laws.FnConsequences", spec := "fnConsequences", unfollowed := true, recurses := true, apart := false, narrowed := true }
def FnConsequencesUptoSaid : Prop := fnConsequencesUptoRow.holds Try.pinned (OpenSpec.upto fnConsequencesSpec)

/-- 'laws.FnPolarity', WHERE WHAT IT READS IS OF BULK AT MOST 1048576: true; the input reads as it did. -/
def fnPolarityUptoRow : OpenClaim := { program := "ytejaikeemahobaa", sum := "29e92a088970d1fd23b85109d351cd6b96aaf5bea1884111910342fb1f5261e7", func := "loop.example/g01089/laws.FnPolarity", spec := "fnPolarity", unfollowed := true, recurses := true, apart := false, narrowed := true }
def FnPolarityUptoSaid : Prop := fnPolarityUptoRow.holds Try.pinned (OpenSpec.upto fnPolaritySpec)

/-- 'laws.FnNormalForms', WHERE WHAT IT READS IS OF BULK AT MOST 1048576: true; the input reads as it did. -/
def fnNormalFormsUptoRow : OpenClaim := { program := "ytejaikeemahobaa", sum := "29e92a088970d1fd23b85109d351cd6b96aaf5bea1884111910342fb1f5261e7", func := "loop.example/g01089/laws.FnNormalForms", spec := "fnNormalForms", unfollowed := true, recurses := true, apart := false, narrowed := true }
def FnNormalFormsUptoSaid : Prop := fnNormalFormsUptoRow.holds Try.pinned (OpenSpec.upto fnNormalFormsSpec)

/-- 'laws.FnTruthInParts', WHERE WHAT IT READS IS OF BULK AT MOST 1048576: true; the input reads as it did. -/
def fnTruthInPartsUptoRow : OpenClaim := { program := "ytejaikeemahobaa", sum := "29e92a088970d1fd23b85109d351cd6b96aaf5bea1884111910342fb1f5261e7", func := "loop.example/g01089/laws.FnTruthInParts", spec := "fnTruthInParts", unfollowed := true, recurses := true, apart := false, narrowed := true }
def FnTruthInPartsUptoSaid : Prop := fnTruthInPartsUptoRow.holds Try.pinned (OpenSpec.upto fnTruthInPartsSpec)

/-- 'laws.FnClusters', WHERE WHAT IT READS IS OF BULK AT MOST 1048576: true; the input reads as it did. -/
def fnClustersUptoRow : OpenClaim := { program := "ytejaikeemahobaa", sum := "29e92a088970d1fd23b85109d351cd6b96aaf5bea1884111910342fb1f5261e7", func := "loop.example/g01089/laws.FnClusters", spec := "fnClusters", unfollowed := true, recurses := true, apart := false, narrowed := true }
def FnClustersUptoSaid : Prop := fnClustersUptoRow.holds Try.pinned (OpenSpec.upto fnClustersSpec)

end Rows
end Go.Proofs.Ytejaikeemahobaa
