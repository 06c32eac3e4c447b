/-
  No cell of these rows narrows 'for every input' (looked for: loops, veiled, ifaces, maps, wideKeys, modest, calm, conditions, laid).
  DERIVED. THE GIVEN ROWS OF THIS SEAT. 2 by the template 'for every input the law returns true; each argument reads behind the call as it read before'; 0 by the template 'total and deterministic' (their statements: YtpalghbfhgimkaaTotals.lean).
  GIVEN WITH THE SEED: the statements are not yours to turn. If you find one false, say at which input.
  Laid BY PROGRAM, IN A SANDBOX (cutbox-rows.mjs): the forced cells as the released guide's own fill.sh prints them over the translation 7b37bf4bb2de5554… (all of the seat's roots in one cut). By AI agents, Wed Nov 11 2026. No macro, syntax, notation, axiom, sorry.
-/
import Derived.Test.YtpalghbfhgimkaaChecked
import GoSem.Claim
import GoSem.ClaimJoined
import GoSem.ClaimMapViews
import Derived.JoinedTies
import Derived.KernelRfl
namespace Go.Proofs.Ytpalghbfhgimkaa
/- THE CELL 'sum', in the pinned program and in every row, IS THE sha256 OF THE DUMP (.gsa) THAT YtpalghbfhgimkaaProg.lean LOADS. Nothing in Lean hashes anything: it is a label: what it is worth is what the hold of that sum in a sandbox is worth. -/
noncomputable def Try.pinned : Pinned := { name := "ytpalghbfhgimkaa", sum := "7b37bf4bb2de5554be9c0d84e3f26a44c2ce241402e073c536f701dfb022b19c", checked := Try.checked }
namespace Rows
def none {H : Type} : Left H := { results := [], args := [] }

/-- 'laws.FnExactDefinableSets': WHATEVER THE INPUT: true; the input reads as it did. -/
def fnExactDefinableSetsSpec : ChangeSpec := { name := "fnExactDefinableSets", fn := fun _ => fun
  | [d1, d2] => { results := [.lit (.bool true)], args := [d1, d2] }
  | _ => none }
def fnExactDefinableSetsRow : OpenClaim := { program := "ytpalghbfhgimkaa", sum := "7b37bf4bb2de5554be9c0d84e3f26a44c2ce241402e073c536f701dfb022b19c", func := "loop.example/g01089/laws.FnExactDefinableSets", spec := "fnExactDefinableSets", unfollowed := true, recurses := true, apart := false }
def FnExactDefinableSetsSaid : Prop := fnExactDefinableSetsRow.holds Try.pinned (OpenSpec.ofChange fnExactDefinableSetsSpec)

/-- ITS FALSE NEIGHBOUR: 'it returns false'. Refute it at one input. -/
def fnExactDefinableSetsWrong : ChangeSpec := { name := "fnExactDefinableSets", fn := fun _ => fun
  | [d1, d2] => { results := [.lit (.bool false)], args := [d1, d2] }
  | _ => none }
def FnExactDefinableSetsWrongFalsely : Prop := fnExactDefinableSetsRow.holds Try.pinned (OpenSpec.ofChange fnExactDefinableSetsWrong)

/-- 'laws.FnDefinable': WHATEVER THE INPUT: true; the input reads as it did. -/
def fnDefinableSpec : ChangeSpec := { name := "fnDefinable", fn := fun _ => fun
  | [d] => { results := [.lit (.bool true)], args := [d] }
  | _ => none }
def fnDefinableRow : OpenClaim := { program := "ytpalghbfhgimkaa", sum := "7b37bf4bb2de5554be9c0d84e3f26a44c2ce241402e073c536f701dfb022b19c", func := "loop.example/g01089/laws.FnDefinable", spec := "fnDefinable", unfollowed := true, recurses := true, apart := false }
def FnDefinableSaid : Prop := fnDefinableRow.holds Try.pinned (OpenSpec.ofChange fnDefinableSpec)

/-- ITS FALSE NEIGHBOUR: 'it returns false'. Refute it at one input. -/
def fnDefinableWrong : ChangeSpec := { name := "fnDefinable", fn := fun _ => fun
  | [d] => { results := [.lit (.bool false)], args := [d] }
  | _ => none }
def FnDefinableWrongFalsely : Prop := fnDefinableRow.holds Try.pinned (OpenSpec.ofChange fnDefinableWrong)

/- THE SECOND FORM. 'bulk': how many values and letters a reading holds, each counted each time it is reached (what is shared counts as often as it is met; a slice's spare places count too). A statement '..UptoSaid' is the law's where the arguments, and the package variables that the reading takes, are together of bulk at most 1048576: NARROWER than '..Said'. Prove '..Said' where nothing that the law and all that it calls make is longer than what came in: it says more and counts as full. Else prove '..UptoSaid'. A law counts once. -/
mutual
def uptoBulk {H : Type} : DataW H → Nat
  | .lit (.string bytes) => bytes.length + 1
  | .lit _ => 1
  | .nil => 1
  | .ptr d => uptoBulk d + 1
  | .slice elems spare => uptoBulkAll elems + uptoBulkAll spare + 1
  | .agg parts => uptoBulkAll parts + 1
  | .iface _ d => uptoBulk d + 1
  | .map entries => uptoBulkEntries entries + 1
  | .held _ => 1
def uptoBulkAll {H : Type} : List (DataW H) → Nat
  | [] => 0
  | d :: r => uptoBulk d + uptoBulkAll r
def uptoBulkEntries {H : Type} : List (Lit × DataW H) → Nat
  | [] => 0
  | x :: r => uptoBulkEntry x + uptoBulkEntries r
def uptoBulkEntry {H : Type} : Lit × DataW H → Nat
  | (.string bytes, d) => bytes.length + uptoBulk d + 1
  | (_, d) => uptoBulk d + 1
 end
def uptoSmall : (H : Type) → List (DataW H) → Bool := fun _ ds => decide (uptoBulkAll ds ≤ 1048576)
def OpenSpec.upto (s : _root_.Go.ChangeSpec) : _root_.Go.OpenSpec := { _root_.Go.OpenSpec.ofChange s with cond := some uptoSmall }

/-- 'laws.FnExactDefinableSets', WHERE WHAT IT READS IS OF BULK AT MOST 1048576: true; the input reads as it did. -/
def fnExactDefinableSetsUptoRow : OpenClaim := { program := "ytpalghbfhgimkaa", sum := "7b37bf4bb2de5554be9c0d84e3f26a44c2ce241402e073c536f701dfb022b19c", func := "loop.example/g01089/laws.FnExactDefinableSets", spec := "fnExactDefinableSets", unfollowed := true, recurses := true, apart := false, narrowed := true }
def FnExactDefinableSetsUptoSaid : Prop := fnExactDefinableSetsUptoRow.holds Try.pinned (OpenSpec.upto fnExactDefinableSetsSpec)

/-- 'laws.FnDefinable', WHERE WHAT IT READS IS OF BULK AT MOST 1048576: true; the input reads as it did. -/
def fnDefinableUptoRow : OpenClaim := { program := "ytpalghbfhgimkaa", sum := "7b37bf4bb2de5554be9c0d84e3f26a44c2ce241402e073c536f701dfb022b19c", func := "loop.example/g01089/laws.FnDefinable", spec := "fnDefinable", unfollowed := true, recurses := true, apart := false, narrowed := true }
def FnDefinableUptoSaid : Prop := fnDefinableUptoRow.holds Try.pinned (OpenSpec.upto fnDefinableSpec)

end Rows
end Go.Proofs.Ytpalghbfhgimkaa
