/-
  No cell of these rows narrows 'for every input' (looked for: loops, veiled, ifaces, maps, wideKeys, modest, calm, conditions, laid).
  DERIVED. THE GIVEN ROWS OF THIS SEAT. 5 by the template 'for every input the law returns true; each argument reads behind the call as it read before'; 0 by the template 'total and deterministic' (their statements: YtkanjgmocmhlkaaGreatTotals.lean).
  GIVEN WITH THE SEED: the statements are not yours to turn. If you find one false, say at which input.
  Laid BY PROGRAM, IN A SANDBOX (cutbox-rows.mjs): the forced cells as the released guide's own fill.sh prints them over the translation 3fa49da67de1208b… (all of the seat's roots in one cut). By AI agents, Wed Nov 11 2026. No macro, syntax, notation, axiom, sorry.
-/
import Derived.Test.YtkanjgmocmhlkaaGreatChecked
import GoSem.Claim
import GoSem.ClaimJoined
import GoSem.ClaimMapViews
import Derived.JoinedTies
import Derived.KernelRfl
namespace Go.Proofs.YtkanjgmocmhlkaaGreat
/- THE CELL 'sum', in the pinned program and in every row, IS THE sha256 OF THE DUMP (.gsa) THAT YtkanjgmocmhlkaaGreatProg.lean LOADS. Nothing in Lean hashes anything: it is a label: what it is worth is what the hold of that sum in a sandbox is worth. -/
noncomputable def Tryz.pinned : Pinned := { name := "ytkanjgmocmhlkaagreat", sum := "3fa49da67de1208bde566b0b6eb8c28f493557417b5b5776954d1b714d567ab9", checked := Tryz.checked }
namespace Rows
def none {H : Type} : Left H := { results := [], args := [] }

/-- 'laws.FnExactIsPosetValid': WHATEVER THE INPUT: true; the input reads as it did. -/
def fnExactIsPosetValidSpec : ChangeSpec := { name := "fnExactIsPosetValid", fn := fun _ => fun
  | [d1, d2] => { results := [.lit (.bool true)], args := [d1, d2] }
  | _ => none }
def fnExactIsPosetValidRow : OpenClaim := { program := "ytkanjgmocmhlkaagreat", sum := "3fa49da67de1208bde566b0b6eb8c28f493557417b5b5776954d1b714d567ab9", func := "loop.example/g01089/laws.FnExactIsPosetValid", spec := "fnExactIsPosetValid", unfollowed := true, recurses := true, apart := false }
def FnExactIsPosetValidSaid : Prop := fnExactIsPosetValidRow.holds Tryz.pinned (OpenSpec.ofChange fnExactIsPosetValidSpec)

/-- ITS FALSE NEIGHBOUR: 'it returns false'. Refute it at one input. -/
def fnExactIsPosetValidWrong : ChangeSpec := { name := "fnExactIsPosetValid", fn := fun _ => fun
  | [d1, d2] => { results := [.lit (.bool false)], args := [d1, d2] }
  | _ => none }
def FnExactIsPosetValidWrongFalsely : Prop := fnExactIsPosetValidRow.holds Tryz.pinned (OpenSpec.ofChange fnExactIsPosetValidWrong)

/-- 'laws.FnExactFirstUnforced': WHATEVER THE INPUT: true; the input reads as it did. -/
def fnExactFirstUnforcedSpec : ChangeSpec := { name := "fnExactFirstUnforced", fn := fun _ => fun
  | [d1, d2] => { results := [.lit (.bool true)], args := [d1, d2] }
  | _ => none }
def fnExactFirstUnforcedRow : OpenClaim := { program := "ytkanjgmocmhlkaagreat", sum := "3fa49da67de1208bde566b0b6eb8c28f493557417b5b5776954d1b714d567ab9", func := "loop.example/g01089/laws.FnExactFirstUnforced", spec := "fnExactFirstUnforced", unfollowed := true, recurses := true, apart := false }
def FnExactFirstUnforcedSaid : Prop := fnExactFirstUnforcedRow.holds Tryz.pinned (OpenSpec.ofChange fnExactFirstUnforcedSpec)

/-- ITS FALSE NEIGHBOUR: 'it returns false'. Refute it at one input. -/
def fnExactFirstUnforcedWrong : ChangeSpec := { name := "fnExactFirstUnforced", fn := fun _ => fun
  | [d1, d2] => { results := [.lit (.bool false)], args := [d1, d2] }
  | _ => none }
def FnExactFirstUnforcedWrongFalsely : Prop := fnExactFirstUnforcedRow.holds Tryz.pinned (OpenSpec.ofChange fnExactFirstUnforcedWrong)

/-- 'laws.FnExactUnforcedElements': WHATEVER THE INPUT: true; the input reads as it did. -/
def fnExactUnforcedElementsSpec : ChangeSpec := { name := "fnExactUnforcedElements", fn := fun _ => fun
  | [d1, d2] => { results := [.lit (.bool true)], args := [d1, d2] }
  | _ => none }
def fnExactUnforcedElementsRow : OpenClaim := { program := "ytkanjgmocmhlkaagreat", sum := "3fa49da67de1208bde566b0b6eb8c28f493557417b5b5776954d1b714d567ab9", func := "loop.example/g01089/laws.FnExactUnforcedElements", spec := "fnExactUnforcedElements", unfollowed := true, recurses := true, apart := false }
def FnExactUnforcedElementsSaid : Prop := fnExactUnforcedElementsRow.holds Tryz.pinned (OpenSpec.ofChange fnExactUnforcedElementsSpec)

/-- ITS FALSE NEIGHBOUR: 'it returns false'. Refute it at one input. -/
def fnExactUnforcedElementsWrong : ChangeSpec := { name := "fnExactUnforcedElements", fn := fun _ => fun
  | [d1, d2] => { results := [.lit (.bool false)], args := [d1, d2] }
  | _ => none }
def FnExactUnforcedElementsWrongFalsely : Prop := fnExactUnforcedElementsRow.holds Tryz.pinned (OpenSpec.ofChange fnExactUnforcedElementsWrong)

/-- 'laws.FnExactFollowsOn': WHATEVER THE INPUT: true; the input reads as it did. -/
def fnExactFollowsOnSpec : ChangeSpec := { name := "fnExactFollowsOn", fn := fun _ => fun
  | [d1, d2, d3] => { results := [.lit (.bool true)], args := [d1, d2, d3] }
  | _ => none }
def fnExactFollowsOnRow : OpenClaim := { program := "ytkanjgmocmhlkaagreat", sum := "3fa49da67de1208bde566b0b6eb8c28f493557417b5b5776954d1b714d567ab9", func := "loop.example/g01089/laws.FnExactFollowsOn", spec := "fnExactFollowsOn", unfollowed := true, recurses := true, apart := false }
def FnExactFollowsOnSaid : Prop := fnExactFollowsOnRow.holds Tryz.pinned (OpenSpec.ofChange fnExactFollowsOnSpec)

/-- ITS FALSE NEIGHBOUR: 'it returns false'. Refute it at one input. -/
def fnExactFollowsOnWrong : ChangeSpec := { name := "fnExactFollowsOn", fn := fun _ => fun
  | [d1, d2, d3] => { results := [.lit (.bool false)], args := [d1, d2, d3] }
  | _ => none }
def FnExactFollowsOnWrongFalsely : Prop := fnExactFollowsOnRow.holds Tryz.pinned (OpenSpec.ofChange fnExactFollowsOnWrong)

/-- 'laws.FnExactShows': WHATEVER THE INPUT: true; the input reads as it did. -/
def fnExactShowsSpec : ChangeSpec := { name := "fnExactShows", fn := fun _ => fun
  | [d1, d2, d3, d4] => { results := [.lit (.bool true)], args := [d1, d2, d3, d4] }
  | _ => none }
def fnExactShowsRow : OpenClaim := { program := "ytkanjgmocmhlkaagreat", sum := "3fa49da67de1208bde566b0b6eb8c28f493557417b5b5776954d1b714d567ab9", func := "loop.example/g01089/laws.FnExactShows", spec := "fnExactShows", unfollowed := true, recurses := true, apart := false }
def FnExactShowsSaid : Prop := fnExactShowsRow.holds Tryz.pinned (OpenSpec.ofChange fnExactShowsSpec)

/-- ITS FALSE NEIGHBOUR: 'it returns false'. Refute it at one input. -/
def fnExactShowsWrong : ChangeSpec := { name := "fnExactShows", fn := fun _ => fun
  | [d1, d2, d3, d4] => { results := [.lit (.bool false)], args := [d1, d2, d3, d4] }
  | _ => none }
def FnExactShowsWrongFalsely : Prop := fnExactShowsRow.holds Tryz.pinned (OpenSpec.ofChange fnExactShowsWrong)

/- THE SECOND FORM. 'bulk': how many values and letters a reading holds, each counted each time it is reached (what is shared counts as often as it is met; a slice's spare places count too). A statement '..UptoSaid' is the law's where the arguments, and the package variables that the reading takes, are together of bulk at most 1048576: NARROWER than '..Said'. Prove '..Said' where nothing that the law and all that it calls make is longer than what came in: it says more and counts as full. Else prove '..UptoSaid'. A law counts once. -/
mutual
def uptoBulk {H : Type} : DataW H → Nat
  | .lit (.string bytes) => bytes.length + 1
  | .lit _ => 1
  | .nil => 1
  | .ptr d => uptoBulk d + 1
  | .slice elems spare => uptoBulkAll elems + uptoBulkAll spare + 1
  | .agg parts => uptoBulkAll parts + 1
  | .iface _ d => uptoBulk d + 1
  | .map entries => uptoBulkEntries entries + 1
  | .held _ => 1
def uptoBulkAll {H : Type} : List (DataW H) → Nat
  | [] => 0
  | d :: r => uptoBulk d + uptoBulkAll r
def uptoBulkEntries {H : Type} : List (Lit × DataW H) → Nat
  | [] => 0
  | x :: r => uptoBulkEntry x + uptoBulkEntries r
def uptoBulkEntry {H : Type} : Lit × DataW H → Nat
  | (.string bytes, d) => bytes.length + uptoBulk d + 1
  | (_, d) => uptoBulk d + 1
 end
def uptoSmall : (H : Type) → List (DataW H) → Bool := fun _ ds => decide (uptoBulkAll ds ≤ 1048576)
def OpenSpec.upto (s : _root_.Go.ChangeSpec) : _root_.Go.OpenSpec := { _root_.Go.OpenSpec.ofChange s with cond := some uptoSmall }

/-- 'laws.FnExactIsPosetValid', WHERE WHAT IT READS IS OF BULK AT MOST 1048576: true; the input reads as it did. -/
def fnExactIsPosetValidUptoRow : OpenClaim := { program := "ytkanjgmocmhlkaagreat", sum := "3fa49da67de1208bde566b0b6eb8c28f493557417b5b5776954d1b714d567ab9", func := "loop.example/g01089/laws.FnExactIsPosetValid", spec := "fnExactIsPosetValid", unfollowed := true, recurses := true, apart := false, narrowed := true }
def FnExactIsPosetValidUptoSaid : Prop := fnExactIsPosetValidUptoRow.holds Tryz.pinned (OpenSpec.upto fnExactIsPosetValidSpec)

/-- 'laws.FnExactFirstUnforced', WHERE WHAT IT READS IS OF BULK AT MOST 1048576: true; the input reads as it did. -/
def fnExactFirstUnforcedUptoRow : OpenClaim := { program := "ytkanjgmocmhlkaagreat", sum := "3fa49da67de1208bde566b0b6eb8c28f493557417b5b5776954d1b714d567ab9", func := "loop.example/g01089/laws.FnExactFirstUnforced", spec := "fnExactFirstUnforced", unfollowed := true, recurses := true, apart := false, narrowed := true }
def FnExactFirstUnforcedUptoSaid : Prop := fnExactFirstUnforcedUptoRow.holds Tryz.pinned (OpenSpec.upto fnExactFirstUnforcedSpec)

/-- 'laws.FnExactUnforcedElements', WHERE WHAT IT READS IS OF BULK AT MOST 1048576: true; the input reads as it did. -/
def fnExactUnforcedElementsUptoRow : OpenClaim := { program := "ytkanjgmocmhlkaagreat", sum := "3fa49da67de1208bde566b0b6eb8c28f493557417b5b5776954d1b714d567ab9", func := "loop.example/g01089/laws.FnExactUnforcedElements", spec := "fnExactUnforcedElements", unfollowed := true, recurses := true, apart := false, narrowed := true }
def FnExactUnforcedElementsUptoSaid : Prop := fnExactUnforcedElementsUptoRow.holds Tryz.pinned (OpenSpec.upto fnExactUnforcedElementsSpec)

/-- 'laws.FnExactFollowsOn', WHERE WHAT IT READS IS OF BULK AT MOST 1048576: true; the input reads as it did. -/
def fnExactFollowsOnUptoRow : OpenClaim := { program := "ytkanjgmocmhlkaagreat", sum := "3fa49da67de1208bde566b0b6eb8c28f493557417b5b5776954d1b714d567ab9", func := "loop.example/g01089/laws.FnExactFollowsOn", spec := "fnExactFollowsOn", unfollowed := true, recurses := true, apart := false, narrowed := true }
def FnExactFollowsOnUptoSaid : Prop := fnExactFollowsOnUptoRow.holds Tryz.pinned (OpenSpec.upto fnExactFollowsOnSpec)

/-- 'laws.FnExactShows', WHERE WHAT IT READS IS OF BULK AT MOST 1048576: true; the input reads as it did. -/
def fnExactShowsUptoRow : OpenClaim := { program := "ytkanjgmocmhlkaagreat", sum := "3fa49da67de1208bde566b0b6eb8c28f493557417b5b5776954d1b714d567ab9", func := "loop.example/g01089/laws.FnExactShows", spec := "fnExactShows", unfollowed := true, recurses := true, apart := false, narrowed := true }
def FnExactShowsUptoSaid : Prop := fnExactShowsUptoRow.holds Tryz.pinned (OpenSpec.upto fnExactShowsSpec)

end Rows
end Go.Proofs.YtkanjgmocmhlkaaGreat
