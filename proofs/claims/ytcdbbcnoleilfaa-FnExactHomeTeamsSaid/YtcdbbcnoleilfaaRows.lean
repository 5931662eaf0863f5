/-
  No cell of these rows narrows 'for every input' (looked for: loops, veiled, ifaces, maps, wideKeys, modest, calm, conditions, laid).
  DERIVED. THE GIVEN ROWS OF THIS SEAT. 6 by the template 'for every input the law returns true; each argument reads behind the call as it read before'; 0 by the template 'total and deterministic' (their statements: YtcdbbcnoleilfaaTotals.lean).
  GIVEN WITH THE SEED: the statements are not yours to turn. If you find one false, say at which input.
  Laid BY PROGRAM, IN A SANDBOX (cutbox-rows.mjs): the forced cells as the released guide's own fill.sh prints them over the translation dc33d3e2562aa0da… (all of the seat's roots in one cut). By AI agents, Wed Nov 11 2026. No macro, syntax, notation, axiom, sorry.
-/
import Derived.Test.YtcdbbcnoleilfaaChecked
import GoSem.Claim
import GoSem.ClaimJoined
import GoSem.ClaimMapViews
import Derived.JoinedTies
import Derived.KernelRfl
namespace Go.Proofs.Ytcdbbcnoleilfaa
/- THE CELL 'sum', in the pinned program and in every row, IS THE sha256 OF THE DUMP (.gsa) THAT YtcdbbcnoleilfaaProg.lean LOADS. Nothing in Lean hashes anything: it is a label: what it is worth is what the hold of that sum in a sandbox is worth. -/
noncomputable def Try.pinned : Pinned := { name := "ytcdbbcnoleilfaa", sum := "dc33d3e2562aa0da427b5356ae3c7fa840a83f723e4d28d316701b71fec6ed07", checked := Try.checked }
namespace Rows
def none {H : Type} : Left H := { results := [], args := [] }

/-- 'laws.FnExactHomeTeams': WHATEVER THE INPUT: true; the input reads as it did. -/
def fnExactHomeTeamsSpec : ChangeSpec := { name := "fnExactHomeTeams", fn := fun _ => fun
  | [d] => { results := [.lit (.bool true)], args := [d] }
  | _ => none }
def fnExactHomeTeamsRow : OpenClaim := { program := "ytcdbbcnoleilfaa", sum := "dc33d3e2562aa0da427b5356ae3c7fa840a83f723e4d28d316701b71fec6ed07", func := "loop.example/g00920/laws.FnExactHomeTeams", spec := "fnExactHomeTeams", unfollowed := true, recurses := true, apart := false }
def FnExactHomeTeamsSaid : Prop := fnExactHomeTeamsRow.holds Try.pinned (OpenSpec.ofChange fnExactHomeTeamsSpec)

/-- ITS FALSE NEIGHBOUR: 'it returns false'. Refute it at one input. -/
def fnExactHomeTeamsWrong : ChangeSpec := { name := "fnExactHomeTeams", fn := fun _ => fun
  | [d] => { results := [.lit (.bool false)], args := [d] }
  | _ => none }
def FnExactHomeTeamsWrongFalsely : Prop := fnExactHomeTeamsRow.holds Try.pinned (OpenSpec.ofChange fnExactHomeTeamsWrong)

/-- 'laws.FnExactDesignOfSchedule': WHATEVER THE INPUT: true; the input reads as it did. -/
def fnExactDesignOfScheduleSpec : ChangeSpec := { name := "fnExactDesignOfSchedule", fn := fun _ => fun
  | [d1, d2] => { results := [.lit (.bool true)], args := [d1, d2] }
  | _ => none }
def fnExactDesignOfScheduleRow : OpenClaim := { program := "ytcdbbcnoleilfaa", sum := "dc33d3e2562aa0da427b5356ae3c7fa840a83f723e4d28d316701b71fec6ed07", func := "loop.example/g00920/laws.FnExactDesignOfSchedule", spec := "fnExactDesignOfSchedule", unfollowed := true, recurses := true, apart := false }
def FnExactDesignOfScheduleSaid : Prop := fnExactDesignOfScheduleRow.holds Try.pinned (OpenSpec.ofChange fnExactDesignOfScheduleSpec)

/-- ITS FALSE NEIGHBOUR: 'it returns false'. Refute it at one input. -/
def fnExactDesignOfScheduleWrong : ChangeSpec := { name := "fnExactDesignOfSchedule", fn := fun _ => fun
  | [d1, d2] => { results := [.lit (.bool false)], args := [d1, d2] }
  | _ => none }
def FnExactDesignOfScheduleWrongFalsely : Prop := fnExactDesignOfScheduleRow.holds Try.pinned (OpenSpec.ofChange fnExactDesignOfScheduleWrong)

/-- 'laws.FnExactPlaneOfMols': WHATEVER THE INPUT: true; the input reads as it did. -/
def fnExactPlaneOfMolsSpec : ChangeSpec := { name := "fnExactPlaneOfMols", fn := fun _ => fun
  | [d] => { results := [.lit (.bool true)], args := [d] }
  | _ => none }
def fnExactPlaneOfMolsRow : OpenClaim := { program := "ytcdbbcnoleilfaa", sum := "dc33d3e2562aa0da427b5356ae3c7fa840a83f723e4d28d316701b71fec6ed07", func := "loop.example/g00920/laws.FnExactPlaneOfMols", spec := "fnExactPlaneOfMols", unfollowed := true, recurses := true, apart := false }
def FnExactPlaneOfMolsSaid : Prop := fnExactPlaneOfMolsRow.holds Try.pinned (OpenSpec.ofChange fnExactPlaneOfMolsSpec)

/-- ITS FALSE NEIGHBOUR: 'it returns false'. Refute it at one input. -/
def fnExactPlaneOfMolsWrong : ChangeSpec := { name := "fnExactPlaneOfMols", fn := fun _ => fun
  | [d] => { results := [.lit (.bool false)], args := [d] }
  | _ => none }
def FnExactPlaneOfMolsWrongFalsely : Prop := fnExactPlaneOfMolsRow.holds Try.pinned (OpenSpec.ofChange fnExactPlaneOfMolsWrong)

/-- 'laws.FnExactParallelClasses': WHATEVER THE INPUT: true; the input reads as it did. -/
def fnExactParallelClassesSpec : ChangeSpec := { name := "fnExactParallelClasses", fn := fun _ => fun
  | [d] => { results := [.lit (.bool true)], args := [d] }
  | _ => none }
def fnExactParallelClassesRow : OpenClaim := { program := "ytcdbbcnoleilfaa", sum := "dc33d3e2562aa0da427b5356ae3c7fa840a83f723e4d28d316701b71fec6ed07", func := "loop.example/g00920/laws.FnExactParallelClasses", spec := "fnExactParallelClasses", unfollowed := true, recurses := true, apart := false }
def FnExactParallelClassesSaid : Prop := fnExactParallelClassesRow.holds Try.pinned (OpenSpec.ofChange fnExactParallelClassesSpec)

/-- ITS FALSE NEIGHBOUR: 'it returns false'. Refute it at one input. -/
def fnExactParallelClassesWrong : ChangeSpec := { name := "fnExactParallelClasses", fn := fun _ => fun
  | [d] => { results := [.lit (.bool false)], args := [d] }
  | _ => none }
def FnExactParallelClassesWrongFalsely : Prop := fnExactParallelClassesRow.holds Try.pinned (OpenSpec.ofChange fnExactParallelClassesWrong)

/-- 'laws.FnExactCompletePlane': WHATEVER THE INPUT: true; the input reads as it did. -/
def fnExactCompletePlaneSpec : ChangeSpec := { name := "fnExactCompletePlane", fn := fun _ => fun
  | [d] => { results := [.lit (.bool true)], args := [d] }
  | _ => none }
def fnExactCompletePlaneRow : OpenClaim := { program := "ytcdbbcnoleilfaa", sum := "dc33d3e2562aa0da427b5356ae3c7fa840a83f723e4d28d316701b71fec6ed07", func := "loop.example/g00920/laws.FnExactCompletePlane", spec := "fnExactCompletePlane", unfollowed := true, recurses := true, apart := false }
def FnExactCompletePlaneSaid : Prop := fnExactCompletePlaneRow.holds Try.pinned (OpenSpec.ofChange fnExactCompletePlaneSpec)

/-- ITS FALSE NEIGHBOUR: 'it returns false'. Refute it at one input. -/
def fnExactCompletePlaneWrong : ChangeSpec := { name := "fnExactCompletePlane", fn := fun _ => fun
  | [d] => { results := [.lit (.bool false)], args := [d] }
  | _ => none }
def FnExactCompletePlaneWrongFalsely : Prop := fnExactCompletePlaneRow.holds Try.pinned (OpenSpec.ofChange fnExactCompletePlaneWrong)

/-- 'laws.FnExactMolsOfPlane': WHATEVER THE INPUT: true; the input reads as it did. -/
def fnExactMolsOfPlaneSpec : ChangeSpec := { name := "fnExactMolsOfPlane", fn := fun _ => fun
  | [d] => { results := [.lit (.bool true)], args := [d] }
  | _ => none }
def fnExactMolsOfPlaneRow : OpenClaim := { program := "ytcdbbcnoleilfaa", sum := "dc33d3e2562aa0da427b5356ae3c7fa840a83f723e4d28d316701b71fec6ed07", func := "loop.example/g00920/laws.FnExactMolsOfPlane", spec := "fnExactMolsOfPlane", unfollowed := true, recurses := true, apart := false }
def FnExactMolsOfPlaneSaid : Prop := fnExactMolsOfPlaneRow.holds Try.pinned (OpenSpec.ofChange fnExactMolsOfPlaneSpec)

/-- ITS FALSE NEIGHBOUR: 'it returns false'. Refute it at one input. -/
def fnExactMolsOfPlaneWrong : ChangeSpec := { name := "fnExactMolsOfPlane", fn := fun _ => fun
  | [d] => { results := [.lit (.bool false)], args := [d] }
  | _ => none }
def FnExactMolsOfPlaneWrongFalsely : Prop := fnExactMolsOfPlaneRow.holds Try.pinned (OpenSpec.ofChange fnExactMolsOfPlaneWrong)

/- THE SECOND FORM. 'bulk': how many values and letters a reading holds, each counted each time it is reached (what is shared counts as often as it is met; a slice's spare places count too). A statement '..UptoSaid' is the law's where the arguments, and the package variables that the reading takes, are together of bulk at most 1048576: NARROWER than '..Said'. Prove '..Said' where nothing that the law and all that it calls make is longer than what came in: it says more and counts as full. Else prove '..UptoSaid'. A law counts once. -/
mutual
def uptoBulk {H : Type} : DataW H → Nat
  | .lit (.string bytes) => bytes.length + 1
  | .lit _ => 1
  | .nil => 1
  | .ptr d => uptoBulk d + 1
  | .slice elems spare => uptoBulkAll elems + uptoBulkAll spare + 1
  | .agg parts => uptoBulkAll parts + 1
  | .iface _ d => uptoBulk d + 1
  | .map entries => uptoBulkEntries entries + 1
  | .held _ => 1
def uptoBulkAll {H : Type} : List (DataW H) → Nat
  | [] => 0
  | d :: r => uptoBulk d + uptoBulkAll r
def uptoBulkEntries {H : Type} : List (Lit × DataW H) → Nat
  | [] => 0
  | x :: r => uptoBulkEntry x + uptoBulkEntries r
def uptoBulkEntry {H : Type} : Lit × DataW H → Nat
  | (.string bytes, d) => bytes.length + uptoBulk d + 1
  | (_, d) => uptoBulk d + 1
 end
def uptoSmall : (H : Type) → List (DataW H) → Bool := fun _ ds => decide (uptoBulkAll ds ≤ 1048576)
def OpenSpec.upto (s : _root_.Go.ChangeSpec) : _root_.Go.OpenSpec := { _root_.Go.OpenSpec.ofChange s with cond := some uptoSmall }

/-- 'laws.FnExactHomeTeams', WHERE WHAT IT READS IS OF BULK AT MOST 1048576: true; the input reads as it did. -/
def fnExactHomeTeamsUptoRow : OpenClaim := { program := "ytcdbbcnoleilfaa", sum := "dc33d3e2562aa0da427b5356ae3c7fa840a83f723e4d28d316701b71fec6ed07", func := "loop.example/g00920/laws.FnExactHomeTeams", spec := "fnExactHomeTeams", unfollowed := true, recurses := true, apart := false, narrowed := true }
def FnExactHomeTeamsUptoSaid : Prop := fnExactHomeTeamsUptoRow.holds Try.pinned (OpenSpec.upto fnExactHomeTeamsSpec)

/-- 'laws.FnExactDesignOfSchedule', WHERE WHAT IT READS IS OF BULK AT MOST 1048576: true; the input reads as it did. -/
def fnExactDesignOfScheduleUptoRow : OpenClaim := { program := "ytcdbbcnoleilfaa", sum := "dc33d3e2562aa0da427b5356ae3c7fa840a83f723e4d28d316701b71fec6ed07", func := "loop.example/g00920/laws.FnExactDesignOfSchedule", spec := "fnExactDesignOfSchedule", unfollowed := true, recurses := true, apart := false, narrowed := true }
def FnExactDesignOfScheduleUptoSaid : Prop := fnExactDesignOfScheduleUptoRow.holds Try.pinned (OpenSpec.upto fnExactDesignOfScheduleSpec)

/-- 'laws.FnExactPlaneOfMols', WHERE WHAT IT READS IS OF BULK AT MOST 1048576: true; the input reads as it did. -/
def fnExactPlaneOfMolsUptoRow : OpenClaim := { program := "ytcdbbcnoleilfaa", sum := "dc33d3e2562aa0da427b5356ae3c7fa840a83f723e4d28d316701b71fec6ed07", func := "loop.example/g00920/laws.FnExactPlaneOfMols", spec := "fnExactPlaneOfMols", unfollowed := true, recurses := true, apart := false, narrowed := true }
def FnExactPlaneOfMolsUptoSaid : Prop := fnExactPlaneOfMolsUptoRow.holds Try.pinned (OpenSpec.upto fnExactPlaneOfMolsSpec)

/-- 'laws.FnExactParallelClasses', WHERE WHAT IT READS IS OF BULK AT MOST 1048576: true; the input reads as it did. -/
def fnExactParallelClassesUptoRow : OpenClaim := { program := "ytcdbbcnoleilfaa", sum := "dc33d3e2562aa0da427b5356ae3c7fa840a83f723e4d28d316701b71fec6ed07", func := "loop.example/g00920/laws.FnExactParallelClasses", spec := "fnExactParallelClasses", unfollowed := true, recurses := true, apart := false, narrowed := true }
def FnExactParallelClassesUptoSaid : Prop := fnExactParallelClassesUptoRow.holds Try.pinned (OpenSpec.upto fnExactParallelClassesSpec)

/-- 'laws.FnExactCompletePlane', WHERE WHAT IT READS IS OF BULK AT MOST 1048576: true; the input reads as it did. -/
def fnExactCompletePlaneUptoRow : OpenClaim := { program := "ytcdbbcnoleilfaa", sum := "dc33d3e2562aa0da427b5356ae3c7fa840a83f723e4d28d316701b71fec6ed07", func := "loop.example/g00920/laws.FnExactCompletePlane", spec := "fnExactCompletePlane", unfollowed := true, recurses := true, apart := false, narrowed := true }
def FnExactCompletePlaneUptoSaid : Prop := fnExactCompletePlaneUptoRow.holds Try.pinned (OpenSpec.upto fnExactCompletePlaneSpec)

/-- 'laws.FnExactMolsOfPlane', WHERE WHAT IT READS IS OF BULK AT MOST 1048576: true; the input reads as it did. -/
def fnExactMolsOfPlaneUptoRow : OpenClaim := { program := "ytcdbbcnoleilfaa", sum := "dc33d3e2562aa0da427b5356ae3c7fa840a83f723e4d28d316701b71fec6ed07", func := "loop.example/g00920/laws.FnExactMolsOfPlane", spec := "fnExactMolsOfPlane", unfollowed := true, recurses := true, apart := false, narrowed := true }
def FnExactMolsOfPlaneUptoSaid : Prop := fnExactMolsOfPlaneUptoRow.holds Try.pinned (OpenSpec.upto fnExactMolsOfPlaneSpec)

end Rows
end Go.Proofs.Ytcdbbcnoleilfaa
