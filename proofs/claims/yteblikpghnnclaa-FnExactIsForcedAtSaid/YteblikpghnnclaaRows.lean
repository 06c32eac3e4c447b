/-
  No cell of these rows narrows 'for every input' (looked for: loops, veiled, ifaces, maps, wideKeys, modest, calm, conditions, laid).
  DERIVED. THE GIVEN ROWS OF THIS SEAT. 12 by the template 'for every input the law returns true; each argument reads behind the call as it read before'; 0 by the template 'total and deterministic' (their statements: YteblikpghnnclaaTotals.lean).
  GIVEN WITH THE SEED: the statements are not yours to turn. If you find one false, say at which input.
  Laid BY PROGRAM, IN A SANDBOX (cutbox-rows.mjs): the forced cells as the released guide's own fill.sh prints them over the translation 02ae4205cd378ed1… (all of the seat's roots in one cut). By AI agents, Wed Nov 11 2026. No macro, syntax, notation, axiom, sorry.
-/
import Derived.Test.YteblikpghnnclaaChecked
import GoSem.Claim
import GoSem.ClaimJoined
import GoSem.ClaimMapViews
import Derived.JoinedTies
import Derived.KernelRfl
namespace Go.Proofs.Yteblikpghnnclaa
/- THE CELL 'sum', in the pinned program and in every row, IS THE sha256 OF THE DUMP (.gsa) THAT YteblikpghnnclaaProg.lean LOADS. Nothing in Lean hashes anything: it is a label: what it is worth is what the hold of that sum in a sandbox is worth. -/
noncomputable def Try.pinned : Pinned := { name := "yteblikpghnnclaa", sum := "02ae4205cd378ed10fbd392885978e428f9e029b5c9fe7062a2c31c6021bef54", checked := Try.checked }
namespace Rows
def none {H : Type} : Left H := { results := [], args := [] }

/-- 'laws.FnExactFirstLadderElement': WHATEVER THE INPUT: true; the input reads as it did. -/
def fnExactFirstLadderElementSpec : ChangeSpec := { name := "fnExactFirstLadderElement", fn := fun _ => fun
  | [d] => { results := [.lit (.bool true)], args := [d] }
  | _ => none }
def fnExactFirstLadderElementRow : OpenClaim := { program := "yteblikpghnnclaa", sum := "02ae4205cd378ed10fbd392885978e428f9e029b5c9fe7062a2c31c6021bef54", func := "loop.example/g01089/laws.FnExactFirstLadderElement", spec := "fnExactFirstLadderElement", unfollowed := true, recurses := true, apart := false }
def FnExactFirstLadderElementSaid : Prop := fnExactFirstLadderElementRow.holds Try.pinned (OpenSpec.ofChange fnExactFirstLadderElementSpec)

/-- ITS FALSE NEIGHBOUR: 'it returns false'. Refute it at one input. -/
def fnExactFirstLadderElementWrong : ChangeSpec := { name := "fnExactFirstLadderElement", fn := fun _ => fun
  | [d] => { results := [.lit (.bool false)], args := [d] }
  | _ => none }
def FnExactFirstLadderElementWrongFalsely : Prop := fnExactFirstLadderElementRow.holds Try.pinned (OpenSpec.ofChange fnExactFirstLadderElementWrong)

/-- 'laws.FnExactNishimuraIndex': WHATEVER THE INPUT: true; the input reads as it did. -/
def fnExactNishimuraIndexSpec : ChangeSpec := { name := "fnExactNishimuraIndex", fn := fun _ => fun
  | [d] => { results := [.lit (.bool true)], args := [d] }
  | _ => none }
def fnExactNishimuraIndexRow : OpenClaim := { program := "yteblikpghnnclaa", sum := "02ae4205cd378ed10fbd392885978e428f9e029b5c9fe7062a2c31c6021bef54", func := "loop.example/g01089/laws.FnExactNishimuraIndex", spec := "fnExactNishimuraIndex", unfollowed := true, recurses := true, apart := false }
def FnExactNishimuraIndexSaid : Prop := fnExactNishimuraIndexRow.holds Try.pinned (OpenSpec.ofChange fnExactNishimuraIndexSpec)

/-- ITS FALSE NEIGHBOUR: 'it returns false'. Refute it at one input. -/
def fnExactNishimuraIndexWrong : ChangeSpec := { name := "fnExactNishimuraIndex", fn := fun _ => fun
  | [d] => { results := [.lit (.bool false)], args := [d] }
  | _ => none }
def FnExactNishimuraIndexWrongFalsely : Prop := fnExactNishimuraIndexRow.holds Try.pinned (OpenSpec.ofChange fnExactNishimuraIndexWrong)

/-- 'laws.FnExactNishimuraOf': WHATEVER THE INPUT: true; the input reads as it did. -/
def fnExactNishimuraOfSpec : ChangeSpec := { name := "fnExactNishimuraOf", fn := fun _ => fun
  | [d] => { results := [.lit (.bool true)], args := [d] }
  | _ => none }
def fnExactNishimuraOfRow : OpenClaim := { program := "yteblikpghnnclaa", sum := "02ae4205cd378ed10fbd392885978e428f9e029b5c9fe7062a2c31c6021bef54", func := "loop.example/g01089/laws.FnExactNishimuraOf", spec := "fnExactNishimuraOf", unfollowed := true, recurses := true, apart := false }
def FnExactNishimuraOfSaid : Prop := fnExactNishimuraOfRow.holds Try.pinned (OpenSpec.ofChange fnExactNishimuraOfSpec)

/-- ITS FALSE NEIGHBOUR: 'it returns false'. Refute it at one input. -/
def fnExactNishimuraOfWrong : ChangeSpec := { name := "fnExactNishimuraOf", fn := fun _ => fun
  | [d] => { results := [.lit (.bool false)], args := [d] }
  | _ => none }
def FnExactNishimuraOfWrongFalsely : Prop := fnExactNishimuraOfRow.holds Try.pinned (OpenSpec.ofChange fnExactNishimuraOfWrong)

/-- 'laws.FnExactRootOf': WHATEVER THE INPUT: true; the input reads as it did. -/
def fnExactRootOfSpec : ChangeSpec := { name := "fnExactRootOf", fn := fun _ => fun
  | [d] => { results := [.lit (.bool true)], args := [d] }
  | _ => none }
def fnExactRootOfRow : OpenClaim := { program := "yteblikpghnnclaa", sum := "02ae4205cd378ed10fbd392885978e428f9e029b5c9fe7062a2c31c6021bef54", func := "loop.example/g01089/laws.FnExactRootOf", spec := "fnExactRootOf", unfollowed := true, recurses := true, apart := false }
def FnExactRootOfSaid : Prop := fnExactRootOfRow.holds Try.pinned (OpenSpec.ofChange fnExactRootOfSpec)

/-- ITS FALSE NEIGHBOUR: 'it returns false'. Refute it at one input. -/
def fnExactRootOfWrong : ChangeSpec := { name := "fnExactRootOf", fn := fun _ => fun
  | [d] => { results := [.lit (.bool false)], args := [d] }
  | _ => none }
def FnExactRootOfWrongFalsely : Prop := fnExactRootOfRow.holds Try.pinned (OpenSpec.ofChange fnExactRootOfWrong)

/-- 'laws.FnExactUpsetsOf': WHATEVER THE INPUT: true; the input reads as it did. -/
def fnExactUpsetsOfSpec : ChangeSpec := { name := "fnExactUpsetsOf", fn := fun _ => fun
  | [d] => { results := [.lit (.bool true)], args := [d] }
  | _ => none }
def fnExactUpsetsOfRow : OpenClaim := { program := "yteblikpghnnclaa", sum := "02ae4205cd378ed10fbd392885978e428f9e029b5c9fe7062a2c31c6021bef54", func := "loop.example/g01089/laws.FnExactUpsetsOf", spec := "fnExactUpsetsOf", unfollowed := true, recurses := true, apart := false }
def FnExactUpsetsOfSaid : Prop := fnExactUpsetsOfRow.holds Try.pinned (OpenSpec.ofChange fnExactUpsetsOfSpec)

/-- ITS FALSE NEIGHBOUR: 'it returns false'. Refute it at one input. -/
def fnExactUpsetsOfWrong : ChangeSpec := { name := "fnExactUpsetsOf", fn := fun _ => fun
  | [d] => { results := [.lit (.bool false)], args := [d] }
  | _ => none }
def FnExactUpsetsOfWrongFalsely : Prop := fnExactUpsetsOfRow.holds Try.pinned (OpenSpec.ofChange fnExactUpsetsOfWrong)

/-- 'laws.FnExactAntichainsOf': WHATEVER THE INPUT: true; the input reads as it did. -/
def fnExactAntichainsOfSpec : ChangeSpec := { name := "fnExactAntichainsOf", fn := fun _ => fun
  | [d] => { results := [.lit (.bool true)], args := [d] }
  | _ => none }
def fnExactAntichainsOfRow : OpenClaim := { program := "yteblikpghnnclaa", sum := "02ae4205cd378ed10fbd392885978e428f9e029b5c9fe7062a2c31c6021bef54", func := "loop.example/g01089/laws.FnExactAntichainsOf", spec := "fnExactAntichainsOf", unfollowed := true, recurses := true, apart := false }
def FnExactAntichainsOfSaid : Prop := fnExactAntichainsOfRow.holds Try.pinned (OpenSpec.ofChange fnExactAntichainsOfSpec)

/-- ITS FALSE NEIGHBOUR: 'it returns false'. Refute it at one input. -/
def fnExactAntichainsOfWrong : ChangeSpec := { name := "fnExactAntichainsOf", fn := fun _ => fun
  | [d] => { results := [.lit (.bool false)], args := [d] }
  | _ => none }
def FnExactAntichainsOfWrongFalsely : Prop := fnExactAntichainsOfRow.holds Try.pinned (OpenSpec.ofChange fnExactAntichainsOfWrong)

/-- 'laws.FnExactStackPosets': WHATEVER THE INPUT: true; the input reads as it did. -/
def fnExactStackPosetsSpec : ChangeSpec := { name := "fnExactStackPosets", fn := fun _ => fun
  | [d1, d2] => { results := [.lit (.bool true)], args := [d1, d2] }
  | _ => none }
def fnExactStackPosetsRow : OpenClaim := { program := "yteblikpghnnclaa", sum := "02ae4205cd378ed10fbd392885978e428f9e029b5c9fe7062a2c31c6021bef54", func := "loop.example/g01089/laws.FnExactStackPosets", spec := "fnExactStackPosets", unfollowed := true, recurses := true, apart := false }
def FnExactStackPosetsSaid : Prop := fnExactStackPosetsRow.holds Try.pinned (OpenSpec.ofChange fnExactStackPosetsSpec)

/-- ITS FALSE NEIGHBOUR: 'it returns false'. Refute it at one input. -/
def fnExactStackPosetsWrong : ChangeSpec := { name := "fnExactStackPosets", fn := fun _ => fun
  | [d1, d2] => { results := [.lit (.bool false)], args := [d1, d2] }
  | _ => none }
def FnExactStackPosetsWrongFalsely : Prop := fnExactStackPosetsRow.holds Try.pinned (OpenSpec.ofChange fnExactStackPosetsWrong)

/-- 'laws.FnExactForcedSet': WHATEVER THE INPUT: true; the input reads as it did. -/
def fnExactForcedSetSpec : ChangeSpec := { name := "fnExactForcedSet", fn := fun _ => fun
  | [d1, d2, d3] => { results := [.lit (.bool true)], args := [d1, d2, d3] }
  | _ => none }
def fnExactForcedSetRow : OpenClaim := { program := "yteblikpghnnclaa", sum := "02ae4205cd378ed10fbd392885978e428f9e029b5c9fe7062a2c31c6021bef54", func := "loop.example/g01089/laws.FnExactForcedSet", spec := "fnExactForcedSet", unfollowed := true, recurses := true, apart := false }
def FnExactForcedSetSaid : Prop := fnExactForcedSetRow.holds Try.pinned (OpenSpec.ofChange fnExactForcedSetSpec)

/-- ITS FALSE NEIGHBOUR: 'it returns false'. Refute it at one input. -/
def fnExactForcedSetWrong : ChangeSpec := { name := "fnExactForcedSet", fn := fun _ => fun
  | [d1, d2, d3] => { results := [.lit (.bool false)], args := [d1, d2, d3] }
  | _ => none }
def FnExactForcedSetWrongFalsely : Prop := fnExactForcedSetRow.holds Try.pinned (OpenSpec.ofChange fnExactForcedSetWrong)

/-- 'laws.FnExactIsForcedAt': WHATEVER THE INPUT: true; the input reads as it did. -/
def fnExactIsForcedAtSpec : ChangeSpec := { name := "fnExactIsForcedAt", fn := fun _ => fun
  | [d1, d2, d3, d4] => { results := [.lit (.bool true)], args := [d1, d2, d3, d4] }
  | _ => none }
def fnExactIsForcedAtRow : OpenClaim := { program := "yteblikpghnnclaa", sum := "02ae4205cd378ed10fbd392885978e428f9e029b5c9fe7062a2c31c6021bef54", func := "loop.example/g01089/laws.FnExactIsForcedAt", spec := "fnExactIsForcedAt", unfollowed := true, recurses := true, apart := false }
def FnExactIsForcedAtSaid : Prop := fnExactIsForcedAtRow.holds Try.pinned (OpenSpec.ofChange fnExactIsForcedAtSpec)

/-- ITS FALSE NEIGHBOUR: 'it returns false'. Refute it at one input. -/
def fnExactIsForcedAtWrong : ChangeSpec := { name := "fnExactIsForcedAt", fn := fun _ => fun
  | [d1, d2, d3, d4] => { results := [.lit (.bool false)], args := [d1, d2, d3, d4] }
  | _ => none }
def FnExactIsForcedAtWrongFalsely : Prop := fnExactIsForcedAtRow.holds Try.pinned (OpenSpec.ofChange fnExactIsForcedAtWrong)

/-- 'laws.FnExactUpsetAlgebra': WHATEVER THE INPUT: true; the input reads as it did. -/
def fnExactUpsetAlgebraSpec : ChangeSpec := { name := "fnExactUpsetAlgebra", fn := fun _ => fun
  | [d] => { results := [.lit (.bool true)], args := [d] }
  | _ => none }
def fnExactUpsetAlgebraRow : OpenClaim := { program := "yteblikpghnnclaa", sum := "02ae4205cd378ed10fbd392885978e428f9e029b5c9fe7062a2c31c6021bef54", func := "loop.example/g01089/laws.FnExactUpsetAlgebra", spec := "fnExactUpsetAlgebra", unfollowed := true, recurses := true, apart := false }
def FnExactUpsetAlgebraSaid : Prop := fnExactUpsetAlgebraRow.holds Try.pinned (OpenSpec.ofChange fnExactUpsetAlgebraSpec)

/-- ITS FALSE NEIGHBOUR: 'it returns false'. Refute it at one input. -/
def fnExactUpsetAlgebraWrong : ChangeSpec := { name := "fnExactUpsetAlgebra", fn := fun _ => fun
  | [d] => { results := [.lit (.bool false)], args := [d] }
  | _ => none }
def FnExactUpsetAlgebraWrongFalsely : Prop := fnExactUpsetAlgebraRow.holds Try.pinned (OpenSpec.ofChange fnExactUpsetAlgebraWrong)

/-- 'laws.FnExactQuotientPoset': WHATEVER THE INPUT: true; the input reads as it did. -/
def fnExactQuotientPosetSpec : ChangeSpec := { name := "fnExactQuotientPoset", fn := fun _ => fun
  | [d1, d2] => { results := [.lit (.bool true)], args := [d1, d2] }
  | _ => none }
def fnExactQuotientPosetRow : OpenClaim := { program := "yteblikpghnnclaa", sum := "02ae4205cd378ed10fbd392885978e428f9e029b5c9fe7062a2c31c6021bef54", func := "loop.example/g01089/laws.FnExactQuotientPoset", spec := "fnExactQuotientPoset", unfollowed := true, recurses := true, apart := false }
def FnExactQuotientPosetSaid : Prop := fnExactQuotientPosetRow.holds Try.pinned (OpenSpec.ofChange fnExactQuotientPosetSpec)

/-- ITS FALSE NEIGHBOUR: 'it returns false'. Refute it at one input. -/
def fnExactQuotientPosetWrong : ChangeSpec := { name := "fnExactQuotientPoset", fn := fun _ => fun
  | [d1, d2] => { results := [.lit (.bool false)], args := [d1, d2] }
  | _ => none }
def FnExactQuotientPosetWrongFalsely : Prop := fnExactQuotientPosetRow.holds Try.pinned (OpenSpec.ofChange fnExactQuotientPosetWrong)

/-- 'laws.FnExactIsPosetMorphism': WHATEVER THE INPUT: true; the input reads as it did. -/
def fnExactIsPosetMorphismSpec : ChangeSpec := { name := "fnExactIsPosetMorphism", fn := fun _ => fun
  | [d1, d2, d3] => { results := [.lit (.bool true)], args := [d1, d2, d3] }
  | _ => none }
def fnExactIsPosetMorphismRow : OpenClaim := { program := "yteblikpghnnclaa", sum := "02ae4205cd378ed10fbd392885978e428f9e029b5c9fe7062a2c31c6021bef54", func := "loop.example/g01089/laws.FnExactIsPosetMorphism", spec := "fnExactIsPosetMorphism", unfollowed := true, recurses := true, apart := false }
def FnExactIsPosetMorphismSaid : Prop := fnExactIsPosetMorphismRow.holds Try.pinned (OpenSpec.ofChange fnExactIsPosetMorphismSpec)

/-- ITS FALSE NEIGHBOUR: 'it returns false'. Refute it at one input. -/
def fnExactIsPosetMorphismWrong : ChangeSpec := { name := "fnExactIsPosetMorphism", fn := fun _ => fun
  | [d1, d2, d3] => { results := [.lit (.bool false)], args := [d1, d2, d3] }
  | _ => none }
def FnExactIsPosetMorphismWrongFalsely : Prop := fnExactIsPosetMorphismRow.holds Try.pinned (OpenSpec.ofChange fnExactIsPosetMorphismWrong)

/- THE SECOND FORM. 'bulk': how many values and letters a reading holds, each counted each time it is reached (what is shared counts as often as it is met; a slice's spare places count too). A statement '..UptoSaid' is the law's where the arguments, and the package variables that the reading takes, are together of bulk at most 1048576: NARROWER than '..Said'. Prove '..Said' where nothing that the law and all that it calls make is longer than what came in: it says more and counts as full. Else prove '..UptoSaid'. A law counts once. -/
mutual
def uptoBulk {H : Type} : DataW H → Nat
  | .lit (.string bytes) => bytes.length + 1
  | .lit _ => 1
  | .nil => 1
  | .ptr d => uptoBulk d + 1
  | .slice elems spare => uptoBulkAll elems + uptoBulkAll spare + 1
  | .agg parts => uptoBulkAll parts + 1
  | .iface _ d => uptoBulk d + 1
  | .map entries => uptoBulkEntries entries + 1
  | .held _ => 1
def uptoBulkAll {H : Type} : List (DataW H) → Nat
  | [] => 0
  | d :: r => uptoBulk d + uptoBulkAll r
def uptoBulkEntries {H : Type} : List (Lit × DataW H) → Nat
  | [] => 0
  | x :: r => uptoBulkEntry x + uptoBulkEntries r
def uptoBulkEntry {H : Type} : Lit × DataW H → Nat
  | (.string bytes, d) => bytes.length + uptoBulk d + 1
  | (_, d) => uptoBulk d + 1
 end
def uptoSmall : (H : Type) → List (DataW H) → Bool := fun _ ds => decide (uptoBulkAll ds ≤ 1048576)
def OpenSpec.upto (s : _root_.Go.ChangeSpec) : _root_.Go.OpenSpec := { _root_.Go.OpenSpec.ofChange s with cond := some uptoSmall }

/-- 'laws.FnExactFirstLadderElement', WHERE WHAT IT READS IS OF BULK AT MOST 1048576: true; the input reads as it did. -/
def fnExactFirstLadderElementUptoRow : OpenClaim := { program := "yteblikpghnnclaa", sum := "02ae4205cd378ed10fbd392885978e428f9e029b5c9fe7062a2c31c6021bef54", func := "loop.example/g01089/laws.FnExactFirstLadderElement", spec := "fnExactFirstLadderElement", unfollowed := true, recurses := true, apart := false, narrowed := true }
def FnExactFirstLadderElementUptoSaid : Prop := fnExactFirstLadderElementUptoRow.holds Try.pinned (OpenSpec.upto fnExactFirstLadderElementSpec)

/-- 'laws.FnExactNishimuraIndex', WHERE WHAT IT READS IS OF BULK AT MOST 1048576: true; the input reads as it did. -/
def fnExactNishimuraIndexUptoRow : OpenClaim := { program := "yteblikpghnnclaa", sum := "02ae4205cd378ed10fbd392885978e428f9e029b5c9fe7062a2c31c6021bef54", func := "loop.example/g01089/laws.FnExactNishimuraIndex", spec := "fnExactNishimuraIndex", unfollowed := true, recurses := true, apart := false, narrowed := true }
def FnExactNishimuraIndexUptoSaid : Prop := fnExactNishimuraIndexUptoRow.holds Try.pinned (OpenSpec.upto fnExactNishimuraIndexSpec)

/-- 'laws.FnExactNishimuraOf', WHERE WHAT IT READS IS OF BULK AT MOST 1048576: true; the input reads as it did. -/
def fnExactNishimuraOfUptoRow : OpenClaim := { program := "yteblikpghnnclaa", sum := "02ae4205cd378ed10fbd392885978e428f9e029b5c9fe7062a2c31c6021bef54", func := "loop.example/g01089/laws.FnExactNishimuraOf", spec := "fnExactNishimuraOf", unfollowed := true, recurses := true, apart := false, narrowed := true }
def FnExactNishimuraOfUptoSaid : Prop := fnExactNishimuraOfUptoRow.holds Try.pinned (OpenSpec.upto fnExactNishimuraOfSpec)

/-- 'laws.FnExactRootOf', WHERE WHAT IT READS IS OF BULK AT MOST 1048576: true; the input reads as it did. -/
def fnExactRootOfUptoRow : OpenClaim := { program := "yteblikpghnnclaa", sum := "02ae4205cd378ed10fbd392885978e428f9e029b5c9fe7062a2c31c6021bef54", func := "loop.example/g01089/laws.FnExactRootOf", spec := "fnExactRootOf", unfollowed := true, recurses := true, apart := false, narrowed := true }
def FnExactRootOfUptoSaid : Prop := fnExactRootOfUptoRow.holds Try.pinned (OpenSpec.upto fnExactRootOfSpec)

/-- 'laws.FnExactUpsetsOf', WHERE WHAT IT READS IS OF BULK AT MOST 1048576: true; the input reads as it did. -/
def fnExactUpsetsOfUptoRow : OpenClaim := { program := "yteblikpghnnclaa", sum := "02ae4205cd378ed10fbd392885978e428f9e029b5c9fe7062a2c31c6021bef54", func := "loop.example/g01089/laws.FnExactUpsetsOf", spec := "fnExactUpsetsOf", unfollowed := true, recurses := true, apart := false, narrowed := true }
def FnExactUpsetsOfUptoSaid : Prop := fnExactUpsetsOfUptoRow.holds Try.pinned (OpenSpec.upto fnExactUpsetsOfSpec)

/-- 'laws.FnExactAntichainsOf', WHERE WHAT IT READS IS OF BULK AT MOST 1048576: true; the input reads as it did. -/
def fnExactAntichainsOfUptoRow : OpenClaim := { program := "yteblikpghnnclaa", sum := "02ae4205cd378ed10fbd392885978e428f9e029b5c9fe7062a2c31c6021bef54", func := "loop.example/g01089/laws.FnExactAntichainsOf", spec := "fnExactAntichainsOf", unfollowed := true, recurses := true, apart := false, narrowed := true }
def FnExactAntichainsOfUptoSaid : Prop := fnExactAntichainsOfUptoRow.holds Try.pinned (OpenSpec.upto fnExactAntichainsOfSpec)

/-- 'laws.FnExactStackPosets', WHERE WHAT IT READS IS OF BULK AT MOST 1048576: true; the input reads as it did. -/
def fnExactStackPosetsUptoRow : OpenClaim := { program := "yteblikpghnnclaa", sum := "02ae4205cd378ed10fbd392885978e428f9e029b5c9fe7062a2c31c6021bef54", func := "loop.example/g01089/laws.FnExactStackPosets", spec := "fnExactStackPosets", unfollowed := true, recurses := true, apart := false, narrowed := true }
def FnExactStackPosetsUptoSaid : Prop := fnExactStackPosetsUptoRow.holds Try.pinned (OpenSpec.upto fnExactStackPosetsSpec)

/-- 'laws.FnExactForcedSet', WHERE WHAT IT READS IS OF BULK AT MOST 1048576: true; the input reads as it did. -/
def fnExactForcedSetUptoRow : OpenClaim := { program := "yteblikpghnnclaa", sum := "02ae4205cd378ed10fbd392885978e428f9e029b5c9fe7062a2c31c6021bef54", func := "loop.example/g01089/laws.FnExactForcedSet", spec := "fnExactForcedSet", unfollowed := true, recurses := true, apart := false, narrowed := true }
def FnExactForcedSetUptoSaid : Prop := fnExactForcedSetUptoRow.holds Try.pinned (OpenSpec.upto fnExactForcedSetSpec)

/-- 'laws.FnExactIsForcedAt', WHERE WHAT IT READS IS OF BULK AT MOST 1048576: true; the input reads as it did. -/
def fnExactIsForcedAtUptoRow : OpenClaim := { program := "yteblikpghnnclaa", sum := "02ae4205cd378ed10fbd392885978e428f9e029b5c9fe7062a2c31c6021bef54", func := "loop.example/g01089/laws.FnExactIsForcedAt", spec := "fnExactIsForcedAt", unfollowed := true, recurses := true, apart := false, narrowed := true }
def FnExactIsForcedAtUptoSaid : Prop := fnExactIsForcedAtUptoRow.holds Try.pinned (OpenSpec.upto fnExactIsForcedAtSpec)

/-- 'laws.FnExactUpsetAlgebra', WHERE WHAT IT READS IS OF BULK AT MOST 1048576: true; the input reads as it did. -/
def fnExactUpsetAlgebraUptoRow : OpenClaim := { program := "yteblikpghnnclaa", sum := "02ae4205cd378ed10fbd392885978e428f9e029b5c9fe7062a2c31c6021bef54", func := "loop.example/g01089/laws.FnExactUpsetAlgebra", spec := "fnExactUpsetAlgebra", unfollowed := true, recurses := true, apart := false, narrowed := true }
def FnExactUpsetAlgebraUptoSaid : Prop := fnExactUpsetAlgebraUptoRow.holds Try.pinned (OpenSpec.upto fnExactUpsetAlgebraSpec)

/-- 'laws.FnExactQuotientPoset', WHERE WHAT IT READS IS OF BULK AT MOST 1048576: true; the input reads as it did. -/
def fnExactQuotientPosetUptoRow : OpenClaim := { program := "yteblikpghnnclaa", sum := "02ae4205cd378ed10fbd392885978e428f9e029b5c9fe7062a2c31c6021bef54", func := "loop.example/g01089/laws.FnExactQuotientPoset", spec := "fnExactQuotientPoset", unfollowed := true, recurses := true, apart := false, narrowed := true }
def FnExactQuotientPosetUptoSaid : Prop := fnExactQuotientPosetUptoRow.holds Try.pinned (OpenSpec.upto fnExactQuotientPosetSpec)

/-- 'laws.FnExactIsPosetMorphism', WHERE WHAT IT READS IS OF BULK AT MOST 1048576: true; the input reads as it did. -/
def fnExactIsPosetMorphismUptoRow : OpenClaim := { program := "yteblikpghnnclaa", sum := "02ae4205cd378ed10fbd392885978e428f9e029b5c9fe7062a2c31c6021bef54", func := "loop.example/g01089/laws.FnExactIsPosetMorphism", spec := "fnExactIsPosetMorphism", unfollowed := true, recurses := true, apart := false, narrowed := true }
def FnExactIsPosetMorphismUptoSaid : Prop := fnExactIsPosetMorphismUptoRow.holds Try.pinned (OpenSpec.upto fnExactIsPosetMorphismSpec)

end Rows
end Go.Proofs.Yteblikpghnnclaa
