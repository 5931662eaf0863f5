/-
  No cell of these rows narrows 'for every input' (looked for: loops, veiled, ifaces, maps, wideKeys, modest, calm, conditions, laid).
  DERIVED. THE GIVEN ROWS OF THIS SEAT. 12 by the template 'for every input the law returns true; each argument reads behind the call as it read before'; 0 by the template 'total and deterministic' (their statements: YtnpbkkglnbobaaaTotals.lean).
  GIVEN WITH THE SEED: the statements are not yours to turn. If you find one false, say at which input.
  Laid BY PROGRAM, IN A SANDBOX (cutbox-rows.mjs): the forced cells as the released guide's own fill.sh prints them over the translation 7df0067ad0a88b34… (all of the seat's roots in one cut). By AI agents, Wed Nov 11 2026. No macro, syntax, notation, axiom, sorry.
-/
import Derived.Test.YtnpbkkglnbobaaaChecked
import GoSem.Claim
import GoSem.ClaimJoined
import GoSem.ClaimMapViews
import Derived.JoinedTies
import Derived.KernelRfl
namespace Go.Proofs.Ytnpbkkglnbobaaa
/- THE CELL 'sum', in the pinned program and in every row, IS THE sha256 OF THE DUMP (.gsa) THAT YtnpbkkglnbobaaaProg.lean LOADS. Nothing in Lean hashes anything: it is a label: what it is worth is what the hold of that sum in a sandbox is worth. -/
noncomputable def Try.pinned : Pinned := { name := "ytnpbkkglnbobaaa", sum := "7df0067ad0a88b34cf9823941e91e3ce970341a2a6e3bc8a6951b5a525cbe997", checked := Try.checked }
namespace Rows
def none {H : Type} : Left H := { results := [], args := [] }

/-- 'laws.FnExactValidSchedule': WHATEVER THE INPUT: true; the input reads as it did. -/
def fnExactValidScheduleSpec : ChangeSpec := { name := "fnExactValidSchedule", fn := fun _ => fun
  | [d1, d2] => { results := [.lit (.bool true)], args := [d1, d2] }
  | _ => none }
def fnExactValidScheduleRow : OpenClaim := { program := "ytnpbkkglnbobaaa", sum := "7df0067ad0a88b34cf9823941e91e3ce970341a2a6e3bc8a6951b5a525cbe997", func := "loop.example/g00920/laws.FnExactValidSchedule", spec := "fnExactValidSchedule", unfollowed := true, recurses := true, apart := false }
def FnExactValidScheduleSaid : Prop := fnExactValidScheduleRow.holds Try.pinned (OpenSpec.ofChange fnExactValidScheduleSpec)

/-- ITS FALSE NEIGHBOUR: 'it returns false'. Refute it at one input. -/
def fnExactValidScheduleWrong : ChangeSpec := { name := "fnExactValidSchedule", fn := fun _ => fun
  | [d1, d2] => { results := [.lit (.bool false)], args := [d1, d2] }
  | _ => none }
def FnExactValidScheduleWrongFalsely : Prop := fnExactValidScheduleRow.holds Try.pinned (OpenSpec.ofChange fnExactValidScheduleWrong)

/-- 'laws.FnExactProfileOf': WHATEVER THE INPUT: true; the input reads as it did. -/
def fnExactProfileOfSpec : ChangeSpec := { name := "fnExactProfileOf", fn := fun _ => fun
  | [d] => { results := [.lit (.bool true)], args := [d] }
  | _ => none }
def fnExactProfileOfRow : OpenClaim := { program := "ytnpbkkglnbobaaa", sum := "7df0067ad0a88b34cf9823941e91e3ce970341a2a6e3bc8a6951b5a525cbe997", func := "loop.example/g00920/laws.FnExactProfileOf", spec := "fnExactProfileOf", unfollowed := true, recurses := true, apart := false }
def FnExactProfileOfSaid : Prop := fnExactProfileOfRow.holds Try.pinned (OpenSpec.ofChange fnExactProfileOfSpec)

/-- ITS FALSE NEIGHBOUR: 'it returns false'. Refute it at one input. -/
def fnExactProfileOfWrong : ChangeSpec := { name := "fnExactProfileOf", fn := fun _ => fun
  | [d] => { results := [.lit (.bool false)], args := [d] }
  | _ => none }
def FnExactProfileOfWrongFalsely : Prop := fnExactProfileOfRow.holds Try.pinned (OpenSpec.ofChange fnExactProfileOfWrong)

/-- 'laws.FnExactLineThrough': WHATEVER THE INPUT: true; the input reads as it did. -/
def fnExactLineThroughSpec : ChangeSpec := { name := "fnExactLineThrough", fn := fun _ => fun
  | [d1, d2, d3] => { results := [.lit (.bool true)], args := [d1, d2, d3] }
  | _ => none }
def fnExactLineThroughRow : OpenClaim := { program := "ytnpbkkglnbobaaa", sum := "7df0067ad0a88b34cf9823941e91e3ce970341a2a6e3bc8a6951b5a525cbe997", func := "loop.example/g00920/laws.FnExactLineThrough", spec := "fnExactLineThrough", unfollowed := true, recurses := true, apart := false }
def FnExactLineThroughSaid : Prop := fnExactLineThroughRow.holds Try.pinned (OpenSpec.ofChange fnExactLineThroughSpec)

/-- ITS FALSE NEIGHBOUR: 'it returns false'. Refute it at one input. -/
def fnExactLineThroughWrong : ChangeSpec := { name := "fnExactLineThrough", fn := fun _ => fun
  | [d1, d2, d3] => { results := [.lit (.bool false)], args := [d1, d2, d3] }
  | _ => none }
def FnExactLineThroughWrongFalsely : Prop := fnExactLineThroughRow.holds Try.pinned (OpenSpec.ofChange fnExactLineThroughWrong)

/-- 'laws.FnExactIsParallelClass': WHATEVER THE INPUT: true; the input reads as it did. -/
def fnExactIsParallelClassSpec : ChangeSpec := { name := "fnExactIsParallelClass", fn := fun _ => fun
  | [d1, d2] => { results := [.lit (.bool true)], args := [d1, d2] }
  | _ => none }
def fnExactIsParallelClassRow : OpenClaim := { program := "ytnpbkkglnbobaaa", sum := "7df0067ad0a88b34cf9823941e91e3ce970341a2a6e3bc8a6951b5a525cbe997", func := "loop.example/g00920/laws.FnExactIsParallelClass", spec := "fnExactIsParallelClass", unfollowed := true, recurses := true, apart := false }
def FnExactIsParallelClassSaid : Prop := fnExactIsParallelClassRow.holds Try.pinned (OpenSpec.ofChange fnExactIsParallelClassSpec)

/-- ITS FALSE NEIGHBOUR: 'it returns false'. Refute it at one input. -/
def fnExactIsParallelClassWrong : ChangeSpec := { name := "fnExactIsParallelClass", fn := fun _ => fun
  | [d1, d2] => { results := [.lit (.bool false)], args := [d1, d2] }
  | _ => none }
def FnExactIsParallelClassWrongFalsely : Prop := fnExactIsParallelClassRow.holds Try.pinned (OpenSpec.ofChange fnExactIsParallelClassWrong)

/-- 'laws.FnExactIsArc': WHATEVER THE INPUT: true; the input reads as it did. -/
def fnExactIsArcSpec : ChangeSpec := { name := "fnExactIsArc", fn := fun _ => fun
  | [d1, d2] => { results := [.lit (.bool true)], args := [d1, d2] }
  | _ => none }
def fnExactIsArcRow : OpenClaim := { program := "ytnpbkkglnbobaaa", sum := "7df0067ad0a88b34cf9823941e91e3ce970341a2a6e3bc8a6951b5a525cbe997", func := "loop.example/g00920/laws.FnExactIsArc", spec := "fnExactIsArc", unfollowed := true, recurses := true, apart := false }
def FnExactIsArcSaid : Prop := fnExactIsArcRow.holds Try.pinned (OpenSpec.ofChange fnExactIsArcSpec)

/-- ITS FALSE NEIGHBOUR: 'it returns false'. Refute it at one input. -/
def fnExactIsArcWrong : ChangeSpec := { name := "fnExactIsArc", fn := fun _ => fun
  | [d1, d2] => { results := [.lit (.bool false)], args := [d1, d2] }
  | _ => none }
def FnExactIsArcWrongFalsely : Prop := fnExactIsArcRow.holds Try.pinned (OpenSpec.ofChange fnExactIsArcWrong)

/-- 'laws.FnExactOpponentsOf': WHATEVER THE INPUT: true; the input reads as it did. -/
def fnExactOpponentsOfSpec : ChangeSpec := { name := "fnExactOpponentsOf", fn := fun _ => fun
  | [d1, d2, d3] => { results := [.lit (.bool true)], args := [d1, d2, d3] }
  | _ => none }
def fnExactOpponentsOfRow : OpenClaim := { program := "ytnpbkkglnbobaaa", sum := "7df0067ad0a88b34cf9823941e91e3ce970341a2a6e3bc8a6951b5a525cbe997", func := "loop.example/g00920/laws.FnExactOpponentsOf", spec := "fnExactOpponentsOf", unfollowed := true, recurses := true, apart := false }
def FnExactOpponentsOfSaid : Prop := fnExactOpponentsOfRow.holds Try.pinned (OpenSpec.ofChange fnExactOpponentsOfSpec)

/-- ITS FALSE NEIGHBOUR: 'it returns false'. Refute it at one input. -/
def fnExactOpponentsOfWrong : ChangeSpec := { name := "fnExactOpponentsOf", fn := fun _ => fun
  | [d1, d2, d3] => { results := [.lit (.bool false)], args := [d1, d2, d3] }
  | _ => none }
def FnExactOpponentsOfWrongFalsely : Prop := fnExactOpponentsOfRow.holds Try.pinned (OpenSpec.ofChange fnExactOpponentsOfWrong)

/-- 'laws.FnExactIsTripleSystem': WHATEVER THE INPUT: true; the input reads as it did. -/
def fnExactIsTripleSystemSpec : ChangeSpec := { name := "fnExactIsTripleSystem", fn := fun _ => fun
  | [d] => { results := [.lit (.bool true)], args := [d] }
  | _ => none }
def fnExactIsTripleSystemRow : OpenClaim := { program := "ytnpbkkglnbobaaa", sum := "7df0067ad0a88b34cf9823941e91e3ce970341a2a6e3bc8a6951b5a525cbe997", func := "loop.example/g00920/laws.FnExactIsTripleSystem", spec := "fnExactIsTripleSystem", unfollowed := true, recurses := true, apart := false }
def FnExactIsTripleSystemSaid : Prop := fnExactIsTripleSystemRow.holds Try.pinned (OpenSpec.ofChange fnExactIsTripleSystemSpec)

/-- ITS FALSE NEIGHBOUR: 'it returns false'. Refute it at one input. -/
def fnExactIsTripleSystemWrong : ChangeSpec := { name := "fnExactIsTripleSystem", fn := fun _ => fun
  | [d] => { results := [.lit (.bool false)], args := [d] }
  | _ => none }
def FnExactIsTripleSystemWrongFalsely : Prop := fnExactIsTripleSystemRow.holds Try.pinned (OpenSpec.ofChange fnExactIsTripleSystemWrong)

/-- 'laws.FnExactCountBreaks': WHATEVER THE INPUT: true; the input reads as it did. -/
def fnExactCountBreaksSpec : ChangeSpec := { name := "fnExactCountBreaks", fn := fun _ => fun
  | [d1, d2, d3] => { results := [.lit (.bool true)], args := [d1, d2, d3] }
  | _ => none }
def fnExactCountBreaksRow : OpenClaim := { program := "ytnpbkkglnbobaaa", sum := "7df0067ad0a88b34cf9823941e91e3ce970341a2a6e3bc8a6951b5a525cbe997", func := "loop.example/g00920/laws.FnExactCountBreaks", spec := "fnExactCountBreaks", unfollowed := true, recurses := true, apart := false }
def FnExactCountBreaksSaid : Prop := fnExactCountBreaksRow.holds Try.pinned (OpenSpec.ofChange fnExactCountBreaksSpec)

/-- ITS FALSE NEIGHBOUR: 'it returns false'. Refute it at one input. -/
def fnExactCountBreaksWrong : ChangeSpec := { name := "fnExactCountBreaks", fn := fun _ => fun
  | [d1, d2, d3] => { results := [.lit (.bool false)], args := [d1, d2, d3] }
  | _ => none }
def FnExactCountBreaksWrongFalsely : Prop := fnExactCountBreaksRow.holds Try.pinned (OpenSpec.ofChange fnExactCountBreaksWrong)

/-- 'laws.FnExactAffineOrder': WHATEVER THE INPUT: true; the input reads as it did. -/
def fnExactAffineOrderSpec : ChangeSpec := { name := "fnExactAffineOrder", fn := fun _ => fun
  | [d] => { results := [.lit (.bool true)], args := [d] }
  | _ => none }
def fnExactAffineOrderRow : OpenClaim := { program := "ytnpbkkglnbobaaa", sum := "7df0067ad0a88b34cf9823941e91e3ce970341a2a6e3bc8a6951b5a525cbe997", func := "loop.example/g00920/laws.FnExactAffineOrder", spec := "fnExactAffineOrder", unfollowed := true, recurses := true, apart := false }
def FnExactAffineOrderSaid : Prop := fnExactAffineOrderRow.holds Try.pinned (OpenSpec.ofChange fnExactAffineOrderSpec)

/-- ITS FALSE NEIGHBOUR: 'it returns false'. Refute it at one input. -/
def fnExactAffineOrderWrong : ChangeSpec := { name := "fnExactAffineOrder", fn := fun _ => fun
  | [d] => { results := [.lit (.bool false)], args := [d] }
  | _ => none }
def FnExactAffineOrderWrongFalsely : Prop := fnExactAffineOrderRow.holds Try.pinned (OpenSpec.ofChange fnExactAffineOrderWrong)

/-- 'laws.FnExactProjectiveOrder': WHATEVER THE INPUT: true; the input reads as it did. -/
def fnExactProjectiveOrderSpec : ChangeSpec := { name := "fnExactProjectiveOrder", fn := fun _ => fun
  | [d] => { results := [.lit (.bool true)], args := [d] }
  | _ => none }
def fnExactProjectiveOrderRow : OpenClaim := { program := "ytnpbkkglnbobaaa", sum := "7df0067ad0a88b34cf9823941e91e3ce970341a2a6e3bc8a6951b5a525cbe997", func := "loop.example/g00920/laws.FnExactProjectiveOrder", spec := "fnExactProjectiveOrder", unfollowed := true, recurses := true, apart := false }
def FnExactProjectiveOrderSaid : Prop := fnExactProjectiveOrderRow.holds Try.pinned (OpenSpec.ofChange fnExactProjectiveOrderSpec)

/-- ITS FALSE NEIGHBOUR: 'it returns false'. Refute it at one input. -/
def fnExactProjectiveOrderWrong : ChangeSpec := { name := "fnExactProjectiveOrder", fn := fun _ => fun
  | [d] => { results := [.lit (.bool false)], args := [d] }
  | _ => none }
def FnExactProjectiveOrderWrongFalsely : Prop := fnExactProjectiveOrderRow.holds Try.pinned (OpenSpec.ofChange fnExactProjectiveOrderWrong)

/-- 'laws.FnExactThirdPoint': WHATEVER THE INPUT: true; the input reads as it did. -/
def fnExactThirdPointSpec : ChangeSpec := { name := "fnExactThirdPoint", fn := fun _ => fun
  | [d1, d2, d3] => { results := [.lit (.bool true)], args := [d1, d2, d3] }
  | _ => none }
def fnExactThirdPointRow : OpenClaim := { program := "ytnpbkkglnbobaaa", sum := "7df0067ad0a88b34cf9823941e91e3ce970341a2a6e3bc8a6951b5a525cbe997", func := "loop.example/g00920/laws.FnExactThirdPoint", spec := "fnExactThirdPoint", unfollowed := true, recurses := true, apart := false }
def FnExactThirdPointSaid : Prop := fnExactThirdPointRow.holds Try.pinned (OpenSpec.ofChange fnExactThirdPointSpec)

/-- ITS FALSE NEIGHBOUR: 'it returns false'. Refute it at one input. -/
def fnExactThirdPointWrong : ChangeSpec := { name := "fnExactThirdPoint", fn := fun _ => fun
  | [d1, d2, d3] => { results := [.lit (.bool false)], args := [d1, d2, d3] }
  | _ => none }
def FnExactThirdPointWrongFalsely : Prop := fnExactThirdPointRow.holds Try.pinned (OpenSpec.ofChange fnExactThirdPointWrong)

/-- 'laws.FnExactHadamardOfDesign': WHATEVER THE INPUT: true; the input reads as it did. -/
def fnExactHadamardOfDesignSpec : ChangeSpec := { name := "fnExactHadamardOfDesign", fn := fun _ => fun
  | [d] => { results := [.lit (.bool true)], args := [d] }
  | _ => none }
def fnExactHadamardOfDesignRow : OpenClaim := { program := "ytnpbkkglnbobaaa", sum := "7df0067ad0a88b34cf9823941e91e3ce970341a2a6e3bc8a6951b5a525cbe997", func := "loop.example/g00920/laws.FnExactHadamardOfDesign", spec := "fnExactHadamardOfDesign", unfollowed := true, recurses := true, apart := false }
def FnExactHadamardOfDesignSaid : Prop := fnExactHadamardOfDesignRow.holds Try.pinned (OpenSpec.ofChange fnExactHadamardOfDesignSpec)

/-- ITS FALSE NEIGHBOUR: 'it returns false'. Refute it at one input. -/
def fnExactHadamardOfDesignWrong : ChangeSpec := { name := "fnExactHadamardOfDesign", fn := fun _ => fun
  | [d] => { results := [.lit (.bool false)], args := [d] }
  | _ => none }
def FnExactHadamardOfDesignWrongFalsely : Prop := fnExactHadamardOfDesignRow.holds Try.pinned (OpenSpec.ofChange fnExactHadamardOfDesignWrong)

/- THE SECOND FORM. 'bulk': how many values and letters a reading holds, each counted each time it is reached (what is shared counts as often as it is met; a slice's spare places count too). A statement '..UptoSaid' is the law's where the arguments, and the package variables that the reading takes, are together of bulk at most 1048576: NARROWER than '..Said'. Prove '..Said' where nothing that the law and all that it calls make is longer than what came in: it says more and counts as full. Else prove '..UptoSaid'. A law counts once. -/
mutual
def uptoBulk {H : Type} : DataW H → Nat
  | .lit (.string bytes) => bytes.length + 1
  | .lit _ => 1
  | .nil => 1
  | .ptr d => uptoBulk d + 1
  | .slice elems spare => uptoBulkAll elems + uptoBulkAll spare + 1
  | .agg parts => uptoBulkAll parts + 1
  | .iface _ d => uptoBulk d + 1
  | .map entries => uptoBulkEntries entries + 1
  | .held _ => 1
def uptoBulkAll {H : Type} : List (DataW H) → Nat
  | [] => 0
  | d :: r => uptoBulk d + uptoBulkAll r
def uptoBulkEntries {H : Type} : List (Lit × DataW H) → Nat
  | [] => 0
  | x :: r => uptoBulkEntry x + uptoBulkEntries r
def uptoBulkEntry {H : Type} : Lit × DataW H → Nat
  | (.string bytes, d) => bytes.length + uptoBulk d + 1
  | (_, d) => uptoBulk d + 1
 end
def uptoSmall : (H : Type) → List (DataW H) → Bool := fun _ ds => decide (uptoBulkAll ds ≤ 1048576)
def OpenSpec.upto (s : _root_.Go.ChangeSpec) : _root_.Go.OpenSpec := { _root_.Go.OpenSpec.ofChange s with cond := some uptoSmall }

/-- 'laws.FnExactValidSchedule', WHERE WHAT IT READS IS OF BULK AT MOST 1048576: true; the input reads as it did. -/
def fnExactValidScheduleUptoRow : OpenClaim := { program := "ytnpbkkglnbobaaa", sum := "7df0067ad0a88b34cf9823941e91e3ce970341a2a6e3bc8a6951b5a525cbe997", func := "loop.example/g00920/laws.FnExactValidSchedule", spec := "fnExactValidSchedule", unfollowed := true, recurses := true, apart := false, narrowed := true }
def FnExactValidScheduleUptoSaid : Prop := fnExactValidScheduleUptoRow.holds Try.pinned (OpenSpec.upto fnExactValidScheduleSpec)

/-- 'laws.FnExactProfileOf', WHERE WHAT IT READS IS OF BULK AT MOST 1048576: true; the input reads as it did. -/
def fnExactProfileOfUptoRow : OpenClaim := { program := "ytnpbkkglnbobaaa", sum := "7df0067ad0a88b34cf9823941e91e3ce970341a2a6e3bc8a6951b5a525cbe997", func := "loop.example/g00920/laws.FnExactProfileOf", spec := "fnExactProfileOf", unfollowed := true, recurses := true, apart := false, narrowed := true }
def FnExactProfileOfUptoSaid : Prop := fnExactProfileOfUptoRow.holds Try.pinned (OpenSpec.upto fnExactProfileOfSpec)

/-- 'laws.FnExactLineThrough', WHERE WHAT IT READS IS OF BULK AT MOST 1048576: true; the input reads as it did. -/
def fnExactLineThroughUptoRow : OpenClaim := { program := "ytnpbkkglnbobaaa", sum := "7df0067ad0a88b34cf9823941e91e3ce970341a2a6e3bc8a6951b5a525cbe997", func := "loop.example/g00920/laws.FnExactLineThrough", spec := "fnExactLineThrough", unfollowed := true, recurses := true, apart := false, narrowed := true }
def FnExactLineThroughUptoSaid : Prop := fnExactLineThroughUptoRow.holds Try.pinned (OpenSpec.upto fnExactLineThroughSpec)

/-- 'laws.FnExactIsParallelClass', WHERE WHAT IT READS IS OF BULK AT MOST 1048576: true; the input reads as it did. -/
def fnExactIsParallelClassUptoRow : OpenClaim := { program := "ytnpbkkglnbobaaa", sum := "7df0067ad0a88b34cf9823941e91e3ce970341a2a6e3bc8a6951b5a525cbe997", func := "loop.example/g00920/laws.FnExactIsParallelClass", spec := "fnExactIsParallelClass", unfollowed := true, recurses := true, apart := false, narrowed := true }
def FnExactIsParallelClassUptoSaid : Prop := fnExactIsParallelClassUptoRow.holds Try.pinned (OpenSpec.upto fnExactIsParallelClassSpec)

/-- 'laws.FnExactIsArc', WHERE WHAT IT READS IS OF BULK AT MOST 1048576: true; the input reads as it did. -/
def fnExactIsArcUptoRow : OpenClaim := { program := "ytnpbkkglnbobaaa", sum := "7df0067ad0a88b34cf9823941e91e3ce970341a2a6e3bc8a6951b5a525cbe997", func := "loop.example/g00920/laws.FnExactIsArc", spec := "fnExactIsArc", unfollowed := true, recurses := true, apart := false, narrowed := true }
def FnExactIsArcUptoSaid : Prop := fnExactIsArcUptoRow.holds Try.pinned (OpenSpec.upto fnExactIsArcSpec)

/-- 'laws.FnExactOpponentsOf', WHERE WHAT IT READS IS OF BULK AT MOST 1048576: true; the input reads as it did. -/
def fnExactOpponentsOfUptoRow : OpenClaim := { program := "ytnpbkkglnbobaaa", sum := "7df0067ad0a88b34cf9823941e91e3ce970341a2a6e3bc8a6951b5a525cbe997", func := "loop.example/g00920/laws.FnExactOpponentsOf", spec := "fnExactOpponentsOf", unfollowed := true, recurses := true, apart := false, narrowed := true }
def FnExactOpponentsOfUptoSaid : Prop := fnExactOpponentsOfUptoRow.holds Try.pinned (OpenSpec.upto fnExactOpponentsOfSpec)

/-- 'laws.FnExactIsTripleSystem', WHERE WHAT IT READS IS OF BULK AT MOST 1048576: true; the input reads as it did. -/
def fnExactIsTripleSystemUptoRow : OpenClaim := { program := "ytnpbkkglnbobaaa", sum := "7df0067ad0a88b34cf9823941e91e3ce970341a2a6e3bc8a6951b5a525cbe997", func := "loop.example/g00920/laws.FnExactIsTripleSystem", spec := "fnExactIsTripleSystem", unfollowed := true, recurses := true, apart := false, narrowed := true }
def FnExactIsTripleSystemUptoSaid : Prop := fnExactIsTripleSystemUptoRow.holds Try.pinned (OpenSpec.upto fnExactIsTripleSystemSpec)

/-- 'laws.FnExactCountBreaks', WHERE WHAT IT READS IS OF BULK AT MOST 1048576: true; the input reads as it did. -/
def fnExactCountBreaksUptoRow : OpenClaim := { program := "ytnpbkkglnbobaaa", sum := "7df0067ad0a88b34cf9823941e91e3ce970341a2a6e3bc8a6951b5a525cbe997", func := "loop.example/g00920/laws.FnExactCountBreaks", spec := "fnExactCountBreaks", unfollowed := true, recurses := true, apart := false, narrowed := true }
def FnExactCountBreaksUptoSaid : Prop := fnExactCountBreaksUptoRow.holds Try.pinned (OpenSpec.upto fnExactCountBreaksSpec)

/-- 'laws.FnExactAffineOrder', WHERE WHAT IT READS IS OF BULK AT MOST 1048576: true; the input reads as it did. -/
def fnExactAffineOrderUptoRow : OpenClaim := { program := "ytnpbkkglnbobaaa", sum := "7df0067ad0a88b34cf9823941e91e3ce970341a2a6e3bc8a6951b5a525cbe997", func := "loop.example/g00920/laws.FnExactAffineOrder", spec := "fnExactAffineOrder", unfollowed := true, recurses := true, apart := false, narrowed := true }
def FnExactAffineOrderUptoSaid : Prop := fnExactAffineOrderUptoRow.holds Try.pinned (OpenSpec.upto fnExactAffineOrderSpec)

/-- 'laws.FnExactProjectiveOrder', WHERE WHAT IT READS IS OF BULK AT MOST 1048576: true; the input reads as it did. -/
def fnExactProjectiveOrderUptoRow : OpenClaim := { program := "ytnpbkkglnbobaaa", sum := "7df0067ad0a88b34cf9823941e91e3ce970341a2a6e3bc8a6951b5a525cbe997", func := "loop.example/g00920/laws.FnExactProjectiveOrder", spec := "fnExactProjectiveOrder", unfollowed := true, recurses := true, apart := false, narrowed := true }
def FnExactProjectiveOrderUptoSaid : Prop := fnExactProjectiveOrderUptoRow.holds Try.pinned (OpenSpec.upto fnExactProjectiveOrderSpec)

/-- 'laws.FnExactThirdPoint', WHERE WHAT IT READS IS OF BULK AT MOST 1048576: true; the input reads as it did. -/
def fnExactThirdPointUptoRow : OpenClaim := { program := "ytnpbkkglnbobaaa", sum := "7df0067ad0a88b34cf9823941e91e3ce970341a2a6e3bc8a6951b5a525cbe997", func := "loop.example/g00920/laws.FnExactThirdPoint", spec := "fnExactThirdPoint", unfollowed := true, recurses := true, apart := false, narrowed := true }
def FnExactThirdPointUptoSaid : Prop := fnExactThirdPointUptoRow.holds Try.pinned (OpenSpec.upto fnExactThirdPointSpec)

/-- 'laws.FnExactHadamardOfDesign', WHERE WHAT IT READS IS OF BULK AT MOST 1048576: true; the input reads as it did. -/
def fnExactHadamardOfDesignUptoRow : OpenClaim := { program := "ytnpbkkglnbobaaa", sum := "7df0067ad0a88b34cf9823941e91e3ce970341a2a6e3bc8a6951b5a525cbe997", func := "loop.example/g00920/laws.FnExactHadamardOfDesign", spec := "fnExactHadamardOfDesign", unfollowed := true, recurses := true, apart := false, narrowed := true }
def FnExactHadamardOfDesignUptoSaid : Prop := fnExactHadamardOfDesignUptoRow.holds Try.pinned (OpenSpec.upto fnExactHadamardOfDesignSpec)

end Rows
end Go.Proofs.Ytnpbkkglnbobaaa
