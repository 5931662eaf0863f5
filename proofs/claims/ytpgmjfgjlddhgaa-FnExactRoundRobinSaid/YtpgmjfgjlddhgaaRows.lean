/-
  No cell of these rows narrows 'for every input' (looked for: loops, veiled, ifaces, maps, wideKeys, modest, calm, conditions, laid).
  DERIVED. THE GIVEN ROWS OF THIS SEAT. 12 by the template 'for every input the law returns true; each argument reads behind the call as it read before'; 0 by the template 'total and deterministic' (their statements: YtpgmjfgjlddhgaaTotals.lean).
  GIVEN WITH THE SEED: the statements are not yours to turn. If you find one false, say at which input.
  Laid BY PROGRAM, IN A SANDBOX (cutbox-rows.mjs): the forced cells as the released guide's own fill.sh prints them over the translation 282f3238b9f98225… (all of the seat's roots in one cut). By AI agents, Wed Nov 11 2026. No macro, syntax, notation, axiom, sorry.
-/
import Derived.Test.YtpgmjfgjlddhgaaChecked
import GoSem.Claim
import GoSem.ClaimJoined
import GoSem.ClaimMapViews
import Derived.JoinedTies
import Derived.KernelRfl
namespace Go.Proofs.Ytpgmjfgjlddhgaa
/- THE CELL 'sum', in the pinned program and in every row, IS THE sha256 OF THE DUMP (.gsa) THAT YtpgmjfgjlddhgaaProg.lean LOADS. Nothing in Lean hashes anything: it is a label: what it is worth is what the hold of that sum in a sandbox is worth. -/
noncomputable def Try.pinned : Pinned := { name := "ytpgmjfgjlddhgaa", sum := "282f3238b9f9822556dce49ef859d0652604e9e108c8fdabee53036d432f4a0b", checked := Try.checked }
namespace Rows
def none {H : Type} : Left H := { results := [], args := [] }

/-- 'laws.FnExactTripleSquare': WHATEVER THE INPUT: true; the input reads as it did. -/
def fnExactTripleSquareSpec : ChangeSpec := { name := "fnExactTripleSquare", fn := fun _ => fun
  | [d] => { results := [.lit (.bool true)], args := [d] }
  | _ => none }
def fnExactTripleSquareRow : OpenClaim := { program := "ytpgmjfgjlddhgaa", sum := "282f3238b9f9822556dce49ef859d0652604e9e108c8fdabee53036d432f4a0b", func := "loop.example/g00920/laws.FnExactTripleSquare", spec := "fnExactTripleSquare", unfollowed := true, recurses := true, apart := false }
def FnExactTripleSquareSaid : Prop := fnExactTripleSquareRow.holds Try.pinned (OpenSpec.ofChange fnExactTripleSquareSpec)

/-- ITS FALSE NEIGHBOUR: 'it returns false'. Refute it at one input. -/
def fnExactTripleSquareWrong : ChangeSpec := { name := "fnExactTripleSquare", fn := fun _ => fun
  | [d] => { results := [.lit (.bool false)], args := [d] }
  | _ => none }
def FnExactTripleSquareWrongFalsely : Prop := fnExactTripleSquareRow.holds Try.pinned (OpenSpec.ofChange fnExactTripleSquareWrong)

/-- 'laws.FnExactTripleLoop': WHATEVER THE INPUT: true; the input reads as it did. -/
def fnExactTripleLoopSpec : ChangeSpec := { name := "fnExactTripleLoop", fn := fun _ => fun
  | [d] => { results := [.lit (.bool true)], args := [d] }
  | _ => none }
def fnExactTripleLoopRow : OpenClaim := { program := "ytpgmjfgjlddhgaa", sum := "282f3238b9f9822556dce49ef859d0652604e9e108c8fdabee53036d432f4a0b", func := "loop.example/g00920/laws.FnExactTripleLoop", spec := "fnExactTripleLoop", unfollowed := true, recurses := true, apart := false }
def FnExactTripleLoopSaid : Prop := fnExactTripleLoopRow.holds Try.pinned (OpenSpec.ofChange fnExactTripleLoopSpec)

/-- ITS FALSE NEIGHBOUR: 'it returns false'. Refute it at one input. -/
def fnExactTripleLoopWrong : ChangeSpec := { name := "fnExactTripleLoop", fn := fun _ => fun
  | [d] => { results := [.lit (.bool false)], args := [d] }
  | _ => none }
def FnExactTripleLoopWrongFalsely : Prop := fnExactTripleLoopRow.holds Try.pinned (OpenSpec.ofChange fnExactTripleLoopWrong)

/-- 'laws.FnExactParallelClasses': WHATEVER THE INPUT: true; the input reads as it did. -/
def fnExactParallelClassesSpec : ChangeSpec := { name := "fnExactParallelClasses", fn := fun _ => fun
  | [d] => { results := [.lit (.bool true)], args := [d] }
  | _ => none }
def fnExactParallelClassesRow : OpenClaim := { program := "ytpgmjfgjlddhgaa", sum := "282f3238b9f9822556dce49ef859d0652604e9e108c8fdabee53036d432f4a0b", func := "loop.example/g00920/laws.FnExactParallelClasses", spec := "fnExactParallelClasses", unfollowed := true, recurses := true, apart := false }
def FnExactParallelClassesSaid : Prop := fnExactParallelClassesRow.holds Try.pinned (OpenSpec.ofChange fnExactParallelClassesSpec)

/-- ITS FALSE NEIGHBOUR: 'it returns false'. Refute it at one input. -/
def fnExactParallelClassesWrong : ChangeSpec := { name := "fnExactParallelClasses", fn := fun _ => fun
  | [d] => { results := [.lit (.bool false)], args := [d] }
  | _ => none }
def FnExactParallelClassesWrongFalsely : Prop := fnExactParallelClassesRow.holds Try.pinned (OpenSpec.ofChange fnExactParallelClassesWrong)

/-- 'laws.FnExactTranslateSet': WHATEVER THE INPUT: true; the input reads as it did. -/
def fnExactTranslateSetSpec : ChangeSpec := { name := "fnExactTranslateSet", fn := fun _ => fun
  | [d1, d2, d3] => { results := [.lit (.bool true)], args := [d1, d2, d3] }
  | _ => none }
def fnExactTranslateSetRow : OpenClaim := { program := "ytpgmjfgjlddhgaa", sum := "282f3238b9f9822556dce49ef859d0652604e9e108c8fdabee53036d432f4a0b", func := "loop.example/g00920/laws.FnExactTranslateSet", spec := "fnExactTranslateSet", unfollowed := true, recurses := true, apart := false }
def FnExactTranslateSetSaid : Prop := fnExactTranslateSetRow.holds Try.pinned (OpenSpec.ofChange fnExactTranslateSetSpec)

/-- ITS FALSE NEIGHBOUR: 'it returns false'. Refute it at one input. -/
def fnExactTranslateSetWrong : ChangeSpec := { name := "fnExactTranslateSet", fn := fun _ => fun
  | [d1, d2, d3] => { results := [.lit (.bool false)], args := [d1, d2, d3] }
  | _ => none }
def FnExactTranslateSetWrongFalsely : Prop := fnExactTranslateSetRow.holds Try.pinned (OpenSpec.ofChange fnExactTranslateSetWrong)

/-- 'laws.FnExactMultiplySet': WHATEVER THE INPUT: true; the input reads as it did. -/
def fnExactMultiplySetSpec : ChangeSpec := { name := "fnExactMultiplySet", fn := fun _ => fun
  | [d1, d2, d3] => { results := [.lit (.bool true)], args := [d1, d2, d3] }
  | _ => none }
def fnExactMultiplySetRow : OpenClaim := { program := "ytpgmjfgjlddhgaa", sum := "282f3238b9f9822556dce49ef859d0652604e9e108c8fdabee53036d432f4a0b", func := "loop.example/g00920/laws.FnExactMultiplySet", spec := "fnExactMultiplySet", unfollowed := true, recurses := true, apart := false }
def FnExactMultiplySetSaid : Prop := fnExactMultiplySetRow.holds Try.pinned (OpenSpec.ofChange fnExactMultiplySetSpec)

/-- ITS FALSE NEIGHBOUR: 'it returns false'. Refute it at one input. -/
def fnExactMultiplySetWrong : ChangeSpec := { name := "fnExactMultiplySet", fn := fun _ => fun
  | [d1, d2, d3] => { results := [.lit (.bool false)], args := [d1, d2, d3] }
  | _ => none }
def FnExactMultiplySetWrongFalsely : Prop := fnExactMultiplySetRow.holds Try.pinned (OpenSpec.ofChange fnExactMultiplySetWrong)

/-- 'laws.FnExactMolsOfPlane': WHATEVER THE INPUT: true; the input reads as it did. -/
def fnExactMolsOfPlaneSpec : ChangeSpec := { name := "fnExactMolsOfPlane", fn := fun _ => fun
  | [d] => { results := [.lit (.bool true)], args := [d] }
  | _ => none }
def fnExactMolsOfPlaneRow : OpenClaim := { program := "ytpgmjfgjlddhgaa", sum := "282f3238b9f9822556dce49ef859d0652604e9e108c8fdabee53036d432f4a0b", func := "loop.example/g00920/laws.FnExactMolsOfPlane", spec := "fnExactMolsOfPlane", unfollowed := true, recurses := true, apart := false }
def FnExactMolsOfPlaneSaid : Prop := fnExactMolsOfPlaneRow.holds Try.pinned (OpenSpec.ofChange fnExactMolsOfPlaneSpec)

/-- ITS FALSE NEIGHBOUR: 'it returns false'. Refute it at one input. -/
def fnExactMolsOfPlaneWrong : ChangeSpec := { name := "fnExactMolsOfPlane", fn := fun _ => fun
  | [d] => { results := [.lit (.bool false)], args := [d] }
  | _ => none }
def FnExactMolsOfPlaneWrongFalsely : Prop := fnExactMolsOfPlaneRow.holds Try.pinned (OpenSpec.ofChange fnExactMolsOfPlaneWrong)

/-- 'laws.FnExactNormalSet': WHATEVER THE INPUT: true; the input reads as it did. -/
def fnExactNormalSetSpec : ChangeSpec := { name := "fnExactNormalSet", fn := fun _ => fun
  | [d1, d2] => { results := [.lit (.bool true)], args := [d1, d2] }
  | _ => none }
def fnExactNormalSetRow : OpenClaim := { program := "ytpgmjfgjlddhgaa", sum := "282f3238b9f9822556dce49ef859d0652604e9e108c8fdabee53036d432f4a0b", func := "loop.example/g00920/laws.FnExactNormalSet", spec := "fnExactNormalSet", unfollowed := true, recurses := true, apart := false }
def FnExactNormalSetSaid : Prop := fnExactNormalSetRow.holds Try.pinned (OpenSpec.ofChange fnExactNormalSetSpec)

/-- ITS FALSE NEIGHBOUR: 'it returns false'. Refute it at one input. -/
def fnExactNormalSetWrong : ChangeSpec := { name := "fnExactNormalSet", fn := fun _ => fun
  | [d1, d2] => { results := [.lit (.bool false)], args := [d1, d2] }
  | _ => none }
def FnExactNormalSetWrongFalsely : Prop := fnExactNormalSetRow.holds Try.pinned (OpenSpec.ofChange fnExactNormalSetWrong)

/-- 'laws.FnExactRoundRobin': WHATEVER THE INPUT: true; the input reads as it did. -/
def fnExactRoundRobinSpec : ChangeSpec := { name := "fnExactRoundRobin", fn := fun _ => fun
  | [d] => { results := [.lit (.bool true)], args := [d] }
  | _ => none }
def fnExactRoundRobinRow : OpenClaim := { program := "ytpgmjfgjlddhgaa", sum := "282f3238b9f9822556dce49ef859d0652604e9e108c8fdabee53036d432f4a0b", func := "loop.example/g00920/laws.FnExactRoundRobin", spec := "fnExactRoundRobin", unfollowed := true, recurses := true, apart := false }
def FnExactRoundRobinSaid : Prop := fnExactRoundRobinRow.holds Try.pinned (OpenSpec.ofChange fnExactRoundRobinSpec)

/-- ITS FALSE NEIGHBOUR: 'it returns false'. Refute it at one input. -/
def fnExactRoundRobinWrong : ChangeSpec := { name := "fnExactRoundRobin", fn := fun _ => fun
  | [d] => { results := [.lit (.bool false)], args := [d] }
  | _ => none }
def FnExactRoundRobinWrongFalsely : Prop := fnExactRoundRobinRow.holds Try.pinned (OpenSpec.ofChange fnExactRoundRobinWrong)

/-- 'laws.FnExactHomeTeams': WHATEVER THE INPUT: true; the input reads as it did. -/
def fnExactHomeTeamsSpec : ChangeSpec := { name := "fnExactHomeTeams", fn := fun _ => fun
  | [d] => { results := [.lit (.bool true)], args := [d] }
  | _ => none }
def fnExactHomeTeamsRow : OpenClaim := { program := "ytpgmjfgjlddhgaa", sum := "282f3238b9f9822556dce49ef859d0652604e9e108c8fdabee53036d432f4a0b", func := "loop.example/g00920/laws.FnExactHomeTeams", spec := "fnExactHomeTeams", unfollowed := true, recurses := true, apart := false }
def FnExactHomeTeamsSaid : Prop := fnExactHomeTeamsRow.holds Try.pinned (OpenSpec.ofChange fnExactHomeTeamsSpec)

/-- ITS FALSE NEIGHBOUR: 'it returns false'. Refute it at one input. -/
def fnExactHomeTeamsWrong : ChangeSpec := { name := "fnExactHomeTeams", fn := fun _ => fun
  | [d] => { results := [.lit (.bool false)], args := [d] }
  | _ => none }
def FnExactHomeTeamsWrongFalsely : Prop := fnExactHomeTeamsRow.holds Try.pinned (OpenSpec.ofChange fnExactHomeTeamsWrong)

/-- 'laws.FnExactMultipliersOf': WHATEVER THE INPUT: true; the input reads as it did. -/
def fnExactMultipliersOfSpec : ChangeSpec := { name := "fnExactMultipliersOf", fn := fun _ => fun
  | [d1, d2] => { results := [.lit (.bool true)], args := [d1, d2] }
  | _ => none }
def fnExactMultipliersOfRow : OpenClaim := { program := "ytpgmjfgjlddhgaa", sum := "282f3238b9f9822556dce49ef859d0652604e9e108c8fdabee53036d432f4a0b", func := "loop.example/g00920/laws.FnExactMultipliersOf", spec := "fnExactMultipliersOf", unfollowed := true, recurses := true, apart := false }
def FnExactMultipliersOfSaid : Prop := fnExactMultipliersOfRow.holds Try.pinned (OpenSpec.ofChange fnExactMultipliersOfSpec)

/-- ITS FALSE NEIGHBOUR: 'it returns false'. Refute it at one input. -/
def fnExactMultipliersOfWrong : ChangeSpec := { name := "fnExactMultipliersOf", fn := fun _ => fun
  | [d1, d2] => { results := [.lit (.bool false)], args := [d1, d2] }
  | _ => none }
def FnExactMultipliersOfWrongFalsely : Prop := fnExactMultipliersOfRow.holds Try.pinned (OpenSpec.ofChange fnExactMultipliersOfWrong)

/-- 'laws.FnExactValidResolution': WHATEVER THE INPUT: true; the input reads as it did. -/
def fnExactValidResolutionSpec : ChangeSpec := { name := "fnExactValidResolution", fn := fun _ => fun
  | [d1, d2] => { results := [.lit (.bool true)], args := [d1, d2] }
  | _ => none }
def fnExactValidResolutionRow : OpenClaim := { program := "ytpgmjfgjlddhgaa", sum := "282f3238b9f9822556dce49ef859d0652604e9e108c8fdabee53036d432f4a0b", func := "loop.example/g00920/laws.FnExactValidResolution", spec := "fnExactValidResolution", unfollowed := true, recurses := true, apart := false }
def FnExactValidResolutionSaid : Prop := fnExactValidResolutionRow.holds Try.pinned (OpenSpec.ofChange fnExactValidResolutionSpec)

/-- ITS FALSE NEIGHBOUR: 'it returns false'. Refute it at one input. -/
def fnExactValidResolutionWrong : ChangeSpec := { name := "fnExactValidResolution", fn := fun _ => fun
  | [d1, d2] => { results := [.lit (.bool false)], args := [d1, d2] }
  | _ => none }
def FnExactValidResolutionWrongFalsely : Prop := fnExactValidResolutionRow.holds Try.pinned (OpenSpec.ofChange fnExactValidResolutionWrong)

/-- 'laws.FnExactPaleyMatrix': WHATEVER THE INPUT: true; the input reads as it did. -/
def fnExactPaleyMatrixSpec : ChangeSpec := { name := "fnExactPaleyMatrix", fn := fun _ => fun
  | [d] => { results := [.lit (.bool true)], args := [d] }
  | _ => none }
def fnExactPaleyMatrixRow : OpenClaim := { program := "ytpgmjfgjlddhgaa", sum := "282f3238b9f9822556dce49ef859d0652604e9e108c8fdabee53036d432f4a0b", func := "loop.example/g00920/laws.FnExactPaleyMatrix", spec := "fnExactPaleyMatrix", unfollowed := true, recurses := true, apart := false }
def FnExactPaleyMatrixSaid : Prop := fnExactPaleyMatrixRow.holds Try.pinned (OpenSpec.ofChange fnExactPaleyMatrixSpec)

/-- ITS FALSE NEIGHBOUR: 'it returns false'. Refute it at one input. -/
def fnExactPaleyMatrixWrong : ChangeSpec := { name := "fnExactPaleyMatrix", fn := fun _ => fun
  | [d] => { results := [.lit (.bool false)], args := [d] }
  | _ => none }
def FnExactPaleyMatrixWrongFalsely : Prop := fnExactPaleyMatrixRow.holds Try.pinned (OpenSpec.ofChange fnExactPaleyMatrixWrong)

/- THE SECOND FORM. 'bulk': how many values and letters a reading holds, each counted each time it is reached (what is shared counts as often as it is met; a slice's spare places count too). A statement '..UptoSaid' is the law's where the arguments, and the package variables that the reading takes, are together of bulk at most 1048576: NARROWER than '..Said'. Prove '..Said' where nothing that the law and all that it calls make is longer than what came in: it says more and counts as full. Else prove '..UptoSaid'. A law counts once. -/
mutual
def uptoBulk {H : Type} : DataW H → Nat
  | .lit (.string bytes) => bytes.length + 1
  | .lit _ => 1
  | .nil => 1
  | .ptr d => uptoBulk d + 1
  | .slice elems spare => uptoBulkAll elems + uptoBulkAll spare + 1
  | .agg parts => uptoBulkAll parts + 1
  | .iface _ d => uptoBulk d + 1
  | .map entries => uptoBulkEntries entries + 1
  | .held _ => 1
def uptoBulkAll {H : Type} : List (DataW H) → Nat
  | [] => 0
  | d :: r => uptoBulk d + uptoBulkAll r
def uptoBulkEntries {H : Type} : List (Lit × DataW H) → Nat
  | [] => 0
  | x :: r => uptoBulkEntry x + uptoBulkEntries r
def uptoBulkEntry {H : Type} : Lit × DataW H → Nat
  | (.string bytes, d) => bytes.length + uptoBulk d + 1
  | (_, d) => uptoBulk d + 1
 end
def uptoSmall : (H : Type) → List (DataW H) → Bool := fun _ ds => decide (uptoBulkAll ds ≤ 1048576)
def OpenSpec.upto (s : _root_.Go.ChangeSpec) : _root_.Go.OpenSpec := { _root_.Go.OpenSpec.ofChange s with cond := some uptoSmall }

/-- 'laws.FnExactTripleSquare', WHERE WHAT IT READS IS OF BULK AT MOST 1048576: true; the input reads as it did. -/
def fnExactTripleSquareUptoRow : OpenClaim := { program := "ytpgmjfgjlddhgaa", sum := "282f3238b9f9822556dce49ef859d0652604e9e108c8fdabee53036d432f4a0b", func := "loop.example/g00920/laws.FnExactTripleSquare", spec := "fnExactTripleSquare", unfollowed := true, recurses := true, apart := false, narrowed := true }
def FnExactTripleSquareUptoSaid : Prop := fnExactTripleSquareUptoRow.holds Try.pinned (OpenSpec.upto fnExactTripleSquareSpec)

/-- 'laws.FnExactTripleLoop', WHERE WHAT IT READS IS OF BULK AT MOST 1048576: true; the input reads as it did. -/
def fnExactTripleLoopUptoRow : OpenClaim := { program := "ytpgmjfgjlddhgaa", sum := "282f3238b9f9822556dce49ef859d0652604e9e108c8fdabee53036d432f4a0b", func := "loop.example/g00920/laws.FnExactTripleLoop", spec := "fnExactTripleLoop", unfollowed := true, recurses := true, apart := false, narrowed := true }
def FnExactTripleLoopUptoSaid : Prop := fnExactTripleLoopUptoRow.holds Try.pinned (OpenSpec.upto fnExactTripleLoopSpec)

/-- 'laws.FnExactParallelClasses', WHERE WHAT IT READS IS OF BULK AT MOST 1048576: true; the input reads as it did. -/
def fnExactParallelClassesUptoRow : OpenClaim := { program := "ytpgmjfgjlddhgaa", sum := "282f3238b9f9822556dce49ef859d0652604e9e108c8fdabee53036d432f4a0b", func := "loop.example/g00920/laws.FnExactParallelClasses", spec := "fnExactParallelClasses", unfollowed := true, recurses := true, apart := false, narrowed := true }
def FnExactParallelClassesUptoSaid : Prop := fnExactParallelClassesUptoRow.holds Try.pinned (OpenSpec.upto fnExactParallelClassesSpec)

/-- 'laws.FnExactTranslateSet', WHERE WHAT IT READS IS OF BULK AT MOST 1048576: true; the input reads as it did. -/
def fnExactTranslateSetUptoRow : OpenClaim := { program := "ytpgmjfgjlddhgaa", sum := "282f3238b9f9822556dce49ef859d0652604e9e108c8fdabee53036d432f4a0b", func := "loop.example/g00920/laws.FnExactTranslateSet", spec := "fnExactTranslateSet", unfollowed := true, recurses := true, apart := false, narrowed := true }
def FnExactTranslateSetUptoSaid : Prop := fnExactTranslateSetUptoRow.holds Try.pinned (OpenSpec.upto fnExactTranslateSetSpec)

/-- 'laws.FnExactMultiplySet', WHERE WHAT IT READS IS OF BULK AT MOST 1048576: true; the input reads as it did. -/
def fnExactMultiplySetUptoRow : OpenClaim := { program := "ytpgmjfgjlddhgaa", sum := "282f3238b9f9822556dce49ef859d0652604e9e108c8fdabee53036d432f4a0b", func := "loop.example/g00920/laws.FnExactMultiplySet", spec := "fnExactMultiplySet", unfollowed := true, recurses := true, apart := false, narrowed := true }
def FnExactMultiplySetUptoSaid : Prop := fnExactMultiplySetUptoRow.holds Try.pinned (OpenSpec.upto fnExactMultiplySetSpec)

/-- 'laws.FnExactMolsOfPlane', WHERE WHAT IT READS IS OF BULK AT MOST 1048576: true; the input reads as it did. -/
def fnExactMolsOfPlaneUptoRow : OpenClaim := { program := "ytpgmjfgjlddhgaa", sum := "282f3238b9f9822556dce49ef859d0652604e9e108c8fdabee53036d432f4a0b", func := "loop.example/g00920/laws.FnExactMolsOfPlane", spec := "fnExactMolsOfPlane", unfollowed := true, recurses := true, apart := false, narrowed := true }
def FnExactMolsOfPlaneUptoSaid : Prop := fnExactMolsOfPlaneUptoRow.holds Try.pinned (OpenSpec.upto fnExactMolsOfPlaneSpec)

/-- 'laws.FnExactNormalSet', WHERE WHAT IT READS IS OF BULK AT MOST 1048576: true; the input reads as it did. -/
def fnExactNormalSetUptoRow : OpenClaim := { program := "ytpgmjfgjlddhgaa", sum := "282f3238b9f9822556dce49ef859d0652604e9e108c8fdabee53036d432f4a0b", func := "loop.example/g00920/laws.FnExactNormalSet", spec := "fnExactNormalSet", unfollowed := true, recurses := true, apart := false, narrowed := true }
def FnExactNormalSetUptoSaid : Prop := fnExactNormalSetUptoRow.holds Try.pinned (OpenSpec.upto fnExactNormalSetSpec)

/-- 'laws.FnExactRoundRobin', WHERE WHAT IT READS IS OF BULK AT MOST 1048576: true; the input reads as it did. -/
def fnExactRoundRobinUptoRow : OpenClaim := { program := "ytpgmjfgjlddhgaa", sum := "282f3238b9f9822556dce49ef859d0652604e9e108c8fdabee53036d432f4a0b", func := "loop.example/g00920/laws.FnExactRoundRobin", spec := "fnExactRoundRobin", unfollowed := true, recurses := true, apart := false, narrowed := true }
def FnExactRoundRobinUptoSaid : Prop := fnExactRoundRobinUptoRow.holds Try.pinned (OpenSpec.upto fnExactRoundRobinSpec)

/-- 'laws.FnExactHomeTeams', WHERE WHAT IT READS IS OF BULK AT MOST 1048576: true; the input reads as it did. -/
def fnExactHomeTeamsUptoRow : OpenClaim := { program := "ytpgmjfgjlddhgaa", sum := "282f3238b9f9822556dce49ef859d0652604e9e108c8fdabee53036d432f4a0b", func := "loop.example/g00920/laws.FnExactHomeTeams", spec := "fnExactHomeTeams", unfollowed := true, recurses := true, apart := false, narrowed := true }
def FnExactHomeTeamsUptoSaid : Prop := fnExactHomeTeamsUptoRow.holds Try.pinned (OpenSpec.upto fnExactHomeTeamsSpec)

/-- 'laws.FnExactMultipliersOf', WHERE WHAT IT READS IS OF BULK AT MOST 1048576: true; the input reads as it did. -/
def fnExactMultipliersOfUptoRow : OpenClaim := { program := "ytpgmjfgjlddhgaa", sum := "282f3238b9f9822556dce49ef859d0652604e9e108c8fdabee53036d432f4a0b", func := "loop.example/g00920/laws.FnExactMultipliersOf", spec := "fnExactMultipliersOf", unfollowed := true, recurses := true, apart := false, narrowed := true }
def FnExactMultipliersOfUptoSaid : Prop := fnExactMultipliersOfUptoRow.holds Try.pinned (OpenSpec.upto fnExactMultipliersOfSpec)

/-- 'laws.FnExactValidResolution', WHERE WHAT IT READS IS OF BULK AT MOST 1048576: true; the input reads as it did. -/
def fnExactValidResolutionUptoRow : OpenClaim := { program := "ytpgmjfgjlddhgaa", sum := "282f3238b9f9822556dce49ef859d0652604e9e108c8fdabee53036d432f4a0b", func := "loop.example/g00920/laws.FnExactValidResolution", spec := "fnExactValidResolution", unfollowed := true, recurses := true, apart := false, narrowed := true }
def FnExactValidResolutionUptoSaid : Prop := fnExactValidResolutionUptoRow.holds Try.pinned (OpenSpec.upto fnExactValidResolutionSpec)

/-- 'laws.FnExactPaleyMatrix', WHERE WHAT IT READS IS OF BULK AT MOST 1048576: true; the input reads as it did. -/
def fnExactPaleyMatrixUptoRow : OpenClaim := { program := "ytpgmjfgjlddhgaa", sum := "282f3238b9f9822556dce49ef859d0652604e9e108c8fdabee53036d432f4a0b", func := "loop.example/g00920/laws.FnExactPaleyMatrix", spec := "fnExactPaleyMatrix", unfollowed := true, recurses := true, apart := false, narrowed := true }
def FnExactPaleyMatrixUptoSaid : Prop := fnExactPaleyMatrixUptoRow.holds Try.pinned (OpenSpec.upto fnExactPaleyMatrixSpec)

end Rows
end Go.Proofs.Ytpgmjfgjlddhgaa
