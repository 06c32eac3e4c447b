/-
  No cell of these rows narrows 'for every input' (looked for: loops, veiled, ifaces, maps, wideKeys, modest, calm, conditions, laid).
  DERIVED. THE GIVEN ROWS OF THIS SEAT. 5 by the template 'for every input the law returns true; each argument reads behind the call as it read before'; 0 by the template 'total and deterministic' (their statements: YtjllngcefoohpaaGreatTotals.lean).
  GIVEN WITH THE SEED: the statements are not yours to turn. If you find one false, say at which input.
  Laid BY PROGRAM, IN A SANDBOX (cutbox-rows.mjs): the forced cells as the released guide's own fill.sh prints them over the translation 667bb06ef13706a2… (all of the seat's roots in one cut). By AI agents, Wed Nov 11 2026. No macro, syntax, notation, axiom, sorry.
-/
import Derived.Test.YtjllngcefoohpaaGreatChecked
import GoSem.Claim
import GoSem.ClaimJoined
import GoSem.ClaimMapViews
import Derived.JoinedTies
import Derived.KernelRfl
namespace Go.Proofs.YtjllngcefoohpaaGreat
/- THE CELL 'sum', in the pinned program and in every row, IS THE sha256 OF THE DUMP (.gsa) THAT YtjllngcefoohpaaGreatProg.lean LOADS. Nothing in Lean hashes anything: it is a label: what it is worth is what the hold of that sum in a sandbox is worth. -/
noncomputable def Tryz.pinned : Pinned := { name := "ytjllngcefoohpaagreat", sum := "667bb06ef13706a2c3d08b088c157ffd02e111b701c2f403216ca6c56f741cce", checked := Tryz.checked }
namespace Rows
def none {H : Type} : Left H := { results := [], args := [] }

/-- 'laws.FnOpremum': WHATEVER THE INPUT: true; the input reads as it did. -/
def fnOpremumSpec : ChangeSpec := { name := "fnOpremum", fn := fun _ => fun
  | [d] => { results := [.lit (.bool true)], args := [d] }
  | _ => none }
def fnOpremumRow : OpenClaim := { program := "ytjllngcefoohpaagreat", sum := "667bb06ef13706a2c3d08b088c157ffd02e111b701c2f403216ca6c56f741cce", func := "loop.example/g01089/laws.FnOpremum", spec := "fnOpremum", unfollowed := true, recurses := true, apart := false }
def FnOpremumSaid : Prop := fnOpremumRow.holds Tryz.pinned (OpenSpec.ofChange fnOpremumSpec)

/-- ITS FALSE NEIGHBOUR: 'it returns false'. Refute it at one input. -/
def fnOpremumWrong : ChangeSpec := { name := "fnOpremum", fn := fun _ => fun
  | [d] => { results := [.lit (.bool false)], args := [d] }
  | _ => none }
def FnOpremumWrongFalsely : Prop := fnOpremumRow.holds Tryz.pinned (OpenSpec.ofChange fnOpremumWrong)

/-- 'laws.FnAlgebraOfUpsets': WHATEVER THE INPUT: true; the input reads as it did. -/
def fnAlgebraOfUpsetsSpec : ChangeSpec := { name := "fnAlgebraOfUpsets", fn := fun _ => fun
  | [d] => { results := [.lit (.bool true)], args := [d] }
  | _ => none }
def fnAlgebraOfUpsetsRow : OpenClaim := { program := "ytjllngcefoohpaagreat", sum := "667bb06ef13706a2c3d08b088c157ffd02e111b701c2f403216ca6c56f741cce", func := "loop.example/g01089/laws.FnAlgebraOfUpsets", spec := "fnAlgebraOfUpsets", unfollowed := true, recurses := true, apart := false }
def FnAlgebraOfUpsetsSaid : Prop := fnAlgebraOfUpsetsRow.holds Tryz.pinned (OpenSpec.ofChange fnAlgebraOfUpsetsSpec)

/-- ITS FALSE NEIGHBOUR: 'it returns false'. Refute it at one input. -/
def fnAlgebraOfUpsetsWrong : ChangeSpec := { name := "fnAlgebraOfUpsets", fn := fun _ => fun
  | [d] => { results := [.lit (.bool false)], args := [d] }
  | _ => none }
def FnAlgebraOfUpsetsWrongFalsely : Prop := fnAlgebraOfUpsetsRow.holds Tryz.pinned (OpenSpec.ofChange fnAlgebraOfUpsetsWrong)

/-- 'laws.FnExactRootedImages': WHATEVER THE INPUT: true; the input reads as it did. -/
def fnExactRootedImagesSpec : ChangeSpec := { name := "fnExactRootedImages", fn := fun _ => fun
  | [d] => { results := [.lit (.bool true)], args := [d] }
  | _ => none }
def fnExactRootedImagesRow : OpenClaim := { program := "ytjllngcefoohpaagreat", sum := "667bb06ef13706a2c3d08b088c157ffd02e111b701c2f403216ca6c56f741cce", func := "loop.example/g01089/laws.FnExactRootedImages", spec := "fnExactRootedImages", unfollowed := true, recurses := true, apart := false }
def FnExactRootedImagesSaid : Prop := fnExactRootedImagesRow.holds Tryz.pinned (OpenSpec.ofChange fnExactRootedImagesSpec)

/-- ITS FALSE NEIGHBOUR: 'it returns false'. Refute it at one input. -/
def fnExactRootedImagesWrong : ChangeSpec := { name := "fnExactRootedImages", fn := fun _ => fun
  | [d] => { results := [.lit (.bool false)], args := [d] }
  | _ => none }
def FnExactRootedImagesWrongFalsely : Prop := fnExactRootedImagesRow.holds Tryz.pinned (OpenSpec.ofChange fnExactRootedImagesWrong)

/-- 'laws.FnAlgebraValidity': WHATEVER THE INPUT: true; the input reads as it did. -/
def fnAlgebraValiditySpec : ChangeSpec := { name := "fnAlgebraValidity", fn := fun _ => fun
  | [d] => { results := [.lit (.bool true)], args := [d] }
  | _ => none }
def fnAlgebraValidityRow : OpenClaim := { program := "ytjllngcefoohpaagreat", sum := "667bb06ef13706a2c3d08b088c157ffd02e111b701c2f403216ca6c56f741cce", func := "loop.example/g01089/laws.FnAlgebraValidity", spec := "fnAlgebraValidity", unfollowed := true, recurses := true, apart := false }
def FnAlgebraValiditySaid : Prop := fnAlgebraValidityRow.holds Tryz.pinned (OpenSpec.ofChange fnAlgebraValiditySpec)

/-- ITS FALSE NEIGHBOUR: 'it returns false'. Refute it at one input. -/
def fnAlgebraValidityWrong : ChangeSpec := { name := "fnAlgebraValidity", fn := fun _ => fun
  | [d] => { results := [.lit (.bool false)], args := [d] }
  | _ => none }
def FnAlgebraValidityWrongFalsely : Prop := fnAlgebraValidityRow.holds Tryz.pinned (OpenSpec.ofChange fnAlgebraValidityWrong)

/-- 'laws.FnDuality': WHATEVER THE INPUT: true; the input reads as it did. -/
def fnDualitySpec : ChangeSpec := { name := "fnDuality", fn := fun _ => fun
  | [d] => { results := [.lit (.bool true)], args := [d] }
  | _ => none }
def fnDualityRow : OpenClaim := { program := "ytjllngcefoohpaagreat", sum := "667bb06ef13706a2c3d08b088c157ffd02e111b701c2f403216ca6c56f741cce", func := "loop.example/g01089/laws.FnDuality", spec := "fnDuality", unfollowed := true, recurses := true, apart := false }
def FnDualitySaid : Prop := fnDualityRow.holds Tryz.pinned (OpenSpec.ofChange fnDualitySpec)

/-- ITS FALSE NEIGHBOUR: 'it returns false'. Refute it at one input. -/
def fnDualityWrong : ChangeSpec := { name := "fnDuality", fn := fun _ => fun
  | [d] => { results := [.lit (.bool false)], args := [d] }
  | _ => none }
def FnDualityWrongFalsely : Prop := fnDualityRow.holds Tryz.pinned (OpenSpec.ofChange fnDualityWrong)

/- THE SECOND FORM. 'bulk': how many values and letters a reading holds, each counted each time it is reached (what is shared counts as often as it is met; a slice's spare places count too). A statement '..UptoSaid' is the law's where the arguments, and the package variables that the reading takes, are together of bulk at most 1048576: NARROWER than '..Said'. Prove '..Said' where nothing that the law and all that it calls make is longer than what came in: it says more and counts as full. Else prove '..UptoSaid'. A law counts once. -/
mutual
def uptoBulk {H : Type} : DataW H → Nat
  | .lit (.string bytes) => bytes.length + 1
  | .lit _ => 1
  | .nil => 1
  | .ptr d => uptoBulk d + 1
  | .slice elems spare => uptoBulkAll elems + uptoBulkAll spare + 1
  | .agg parts => uptoBulkAll parts + 1
  | .iface _ d => uptoBulk d + 1
  | .map entries => uptoBulkEntries entries + 1
  | .held _ => 1
def uptoBulkAll {H : Type} : List (DataW H) → Nat
  | [] => 0
  | d :: r => uptoBulk d + uptoBulkAll r
def uptoBulkEntries {H : Type} : List (Lit × DataW H) → Nat
  | [] => 0
  | x :: r => uptoBulkEntry x + uptoBulkEntries r
def uptoBulkEntry {H : Type} : Lit × DataW H → Nat
  | (.string bytes, d) => bytes.length + uptoBulk d + 1
  | (_, d) => uptoBulk d + 1
 end
def uptoSmall : (H : Type) → List (DataW H) → Bool := fun _ ds => decide (uptoBulkAll ds ≤ 1048576)
def OpenSpec.upto (s : _root_.Go.ChangeSpec) : _root_.Go.OpenSpec := { _root_.Go.OpenSpec.ofChange s with cond := some uptoSmall }

/-- 'laws.FnOpremum', WHERE WHAT IT READS IS OF BULK AT MOST 1048576: true; the input reads as it did. -/
def fnOpremumUptoRow : OpenClaim := { program := "ytjllngcefoohpaagreat", sum := "667bb06ef13706a2c3d08b088c157ffd02e111b701c2f403216ca6c56f741cce", func := "loop.example/g01089/laws.FnOpremum", spec := "fnOpremum", unfollowed := true, recurses := true, apart := false, narrowed := true }
def FnOpremumUptoSaid : Prop := fnOpremumUptoRow.holds Tryz.pinned (OpenSpec.upto fnOpremumSpec)

/-- 'laws.FnAlgebraOfUpsets', WHERE WHAT IT READS IS OF BULK AT MOST 1048576: true; the input reads as it did. -/
def fnAlgebraOfUpsetsUptoRow : OpenClaim := { program := "ytjllngcefoohpaagreat", sum := "667bb06ef13706a2c3d08b088c157ffd02e111b701c2f403216ca6c56f741cce", func := "loop.example/g01089/laws.FnAlgebraOfUpsets", spec := "fnAlgebraOfUpsets", unfollowed := true, recurses := true, apart := false, narrowed := true }
def FnAlgebraOfUpsetsUptoSaid : Prop := fnAlgebraOfUpsetsUptoRow.holds Tryz.pinned (OpenSpec.upto fnAlgebraOfUpsetsSpec)

/-- 'laws.FnExactRootedImages', WHERE WHAT IT READS IS OF BULK AT MOST 1048576: true; the input reads as it did. -/
def fnExactRootedImagesUptoRow : OpenClaim := { program := "ytjllngcefoohpaagreat", sum := "667bb06ef13706a2c3d08b088c157ffd02e111b701c2f403216ca6c56f741cce", func := "loop.example/g01089/laws.FnExactRootedImages", spec := "fnExactRootedImages", unfollowed := true, recurses := true, apart := false, narrowed := true }
def FnExactRootedImagesUptoSaid : Prop := fnExactRootedImagesUptoRow.holds Tryz.pinned (OpenSpec.upto fnExactRootedImagesSpec)

/-- 'laws.FnAlgebraValidity', WHERE WHAT IT READS IS OF BULK AT MOST 1048576: true; the input reads as it did. -/
def fnAlgebraValidityUptoRow : OpenClaim := { program := "ytjllngcefoohpaagreat", sum := "667bb06ef13706a2c3d08b088c157ffd02e111b701c2f403216ca6c56f741cce", func := "loop.example/g01089/laws.FnAlgebraValidity", spec := "fnAlgebraValidity", unfollowed := true, recurses := true, apart := false, narrowed := true }
def FnAlgebraValidityUptoSaid : Prop := fnAlgebraValidityUptoRow.holds Tryz.pinned (OpenSpec.upto fnAlgebraValiditySpec)

/-- 'laws.FnDuality', WHERE WHAT IT READS IS OF BULK AT MOST 1048576: true; the input reads as it did. -/
def fnDualityUptoRow : OpenClaim := { program := "ytjllngcefoohpaagreat", sum := "667bb06ef13706a2c3d08b088c157ffd02e111b701c2f403216ca6c56f741cce", func := "loop.example/g01089/laws.FnDuality", spec := "fnDuality", unfollowed := true, recurses := true, apart := false, narrowed := true }
def FnDualityUptoSaid : Prop := fnDualityUptoRow.holds Tryz.pinned (OpenSpec.upto fnDualitySpec)

end Rows
end Go.Proofs.YtjllngcefoohpaaGreat
