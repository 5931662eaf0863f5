/-
  No cell of these rows narrows 'for every input' (looked for: loops, veiled, ifaces, maps, wideKeys, modest, calm, conditions, laid).
  DERIVED. THE GIVEN ROWS OF THIS SEAT. 3 by the template 'for every input the law returns true; each argument reads behind the call as it read before'; 0 by the template 'total and deterministic' (their statements: YtamklliaibfljaaTotals.lean).
  GIVEN WITH THE SEED: the statements are not yours to turn. If you find one false, say at which input.
  Laid BY PROGRAM, IN A SANDBOX (cutbox-rows.mjs): the forced cells as the released guide's own fill.sh prints them over the translation 1071f212da4bbd51… (all of the seat's roots in one cut). By AI agents, Wed Nov 11 2026. No macro, syntax, notation, axiom, sorry.
-/
import Derived.Test.YtamklliaibfljaaChecked
import GoSem.Claim
import GoSem.ClaimJoined
import GoSem.ClaimMapViews
import Derived.JoinedTies
import Derived.KernelRfl
namespace Go.Proofs.Ytamklliaibfljaa
/- THE CELL 'sum', in the pinned program and in every row, IS THE sha256 OF THE DUMP (.gsa) THAT YtamklliaibfljaaProg.lean LOADS. Nothing in Lean hashes anything: it is a label: what it is worth is what the hold of that sum in a sandbox is worth. -/
noncomputable def Try.pinned : Pinned := { name := "ytamklliaibfljaa", sum := "1071f212da4bbd51d2b6d0c57f7158c53c74a78c7a0e055ce540705681e0532e", checked := Try.checked }
namespace Rows
def none {H : Type} : Left H := { results := [], args := [] }

/-- 'laws.FnExactDesignOfSchedule': WHATEVER THE INPUT: true; the input reads as it did. -/
def fnExactDesignOfScheduleSpec : ChangeSpec := { name := "fnExactDesignOfSchedule", fn := fun _ => fun
  | [d1, d2] => { results := [.lit (.bool true)], args := [d1, d2] }
  | _ => none }
def fnExactDesignOfScheduleRow : OpenClaim := { program := "ytamklliaibfljaa", sum := "1071f212da4bbd51d2b6d0c57f7158c53c74a78c7a0e055ce540705681e0532e", func := "loop.example/g00920/laws.FnExactDesignOfSchedule", spec := "fnExactDesignOfSchedule", unfollowed := true, recurses := true, apart := false }
def FnExactDesignOfScheduleSaid : Prop := fnExactDesignOfScheduleRow.holds Try.pinned (OpenSpec.ofChange fnExactDesignOfScheduleSpec)

/-- ITS FALSE NEIGHBOUR: 'it returns false'. Refute it at one input. -/
def fnExactDesignOfScheduleWrong : ChangeSpec := { name := "fnExactDesignOfSchedule", fn := fun _ => fun
  | [d1, d2] => { results := [.lit (.bool false)], args := [d1, d2] }
  | _ => none }
def FnExactDesignOfScheduleWrongFalsely : Prop := fnExactDesignOfScheduleRow.holds Try.pinned (OpenSpec.ofChange fnExactDesignOfScheduleWrong)

/-- 'laws.FnExactPlaneOfMols': WHATEVER THE INPUT: true; the input reads as it did. -/
def fnExactPlaneOfMolsSpec : ChangeSpec := { name := "fnExactPlaneOfMols", fn := fun _ => fun
  | [d] => { results := [.lit (.bool true)], args := [d] }
  | _ => none }
def fnExactPlaneOfMolsRow : OpenClaim := { program := "ytamklliaibfljaa", sum := "1071f212da4bbd51d2b6d0c57f7158c53c74a78c7a0e055ce540705681e0532e", func := "loop.example/g00920/laws.FnExactPlaneOfMols", spec := "fnExactPlaneOfMols", unfollowed := true, recurses := true, apart := false }
def FnExactPlaneOfMolsSaid : Prop := fnExactPlaneOfMolsRow.holds Try.pinned (OpenSpec.ofChange fnExactPlaneOfMolsSpec)

/-- ITS FALSE NEIGHBOUR: 'it returns false'. Refute it at one input. -/
def fnExactPlaneOfMolsWrong : ChangeSpec := { name := "fnExactPlaneOfMols", fn := fun _ => fun
  | [d] => { results := [.lit (.bool false)], args := [d] }
  | _ => none }
def FnExactPlaneOfMolsWrongFalsely : Prop := fnExactPlaneOfMolsRow.holds Try.pinned (OpenSpec.ofChange fnExactPlaneOfMolsWrong)

/-- 'laws.FnExactProductTriples': WHATEVER THE INPUT: true; the input reads as it did. -/
def fnExactProductTriplesSpec : ChangeSpec := { name := "fnExactProductTriples", fn := fun _ => fun
  | [d1, d2] => { results := [.lit (.bool true)], args := [d1, d2] }
  | _ => none }
def fnExactProductTriplesRow : OpenClaim := { program := "ytamklliaibfljaa", sum := "1071f212da4bbd51d2b6d0c57f7158c53c74a78c7a0e055ce540705681e0532e", func := "loop.example/g00920/laws.FnExactProductTriples", spec := "fnExactProductTriples", unfollowed := true, recurses := true, apart := false }
def FnExactProductTriplesSaid : Prop := fnExactProductTriplesRow.holds Try.pinned (OpenSpec.ofChange fnExactProductTriplesSpec)

/-- ITS FALSE NEIGHBOUR: 'it returns false'. Refute it at one input. -/
def fnExactProductTriplesWrong : ChangeSpec := { name := "fnExactProductTriples", fn := fun _ => fun
  | [d1, d2] => { results := [.lit (.bool false)], args := [d1, d2] }
  | _ => none }
def FnExactProductTriplesWrongFalsely : Prop := fnExactProductTriplesRow.holds Try.pinned (OpenSpec.ofChange fnExactProductTriplesWrong)

/- THE SECOND FORM. 'bulk': how many values and letters a reading holds, each counted each time it is reached (what is shared counts as often as it is met; a slice's spare places count too). A statement '..UptoSaid' is the law's where the arguments, and the package variables that the reading takes, are together of bulk at most 1048576: NARROWER than '..Said'. Prove '..Said' where nothing that the law and all that it calls make is longer than what came in: it says more and counts as full. Else prove '..UptoSaid'. A law counts once. -/
mutual
def uptoBulk {H : Type} : DataW H → Nat
  | .lit (.string bytes) => bytes.length + 1
  | .lit _ => 1
  | .nil => 1
  | .ptr d => uptoBulk d + 1
  | .slice elems spare => uptoBulkAll elems + uptoBulkAll spare + 1
  | .agg parts => uptoBulkAll parts + 1
  | .iface _ d => uptoBulk d + 1
  | .map entries => uptoBulkEntries entries + 1
  | .held _ => 1
def uptoBulkAll {H : Type} : List (DataW H) → Nat
  | [] => 0
  | d :: r => uptoBulk d + uptoBulkAll r
def uptoBulkEntries {H : Type} : List (Lit × DataW H) → Nat
  | [] => 0
  | x :: r => uptoBulkEntry x + uptoBulkEntries r
def uptoBulkEntry {H : Type} : Lit × DataW H → Nat
  | (.string bytes, d) => bytes.length + uptoBulk d + 1
  | (_, d) => uptoBulk d + 1
 end
def uptoSmall : (H : Type) → List (DataW H) → Bool := fun _ ds => decide (uptoBulkAll ds ≤ 1048576)
def OpenSpec.upto (s : _root_.Go.ChangeSpec) : _root_.Go.OpenSpec := { _root_.Go.OpenSpec.ofChange s with cond := some uptoSmall }

/-- 'laws.FnExactDesignOfSchedule', WHERE WHAT IT READS IS OF BULK AT MOST 1048576: true; the input reads as it did. -/
def fnExactDesignOfScheduleUptoRow : OpenClaim := { program := "ytamklliaibfljaa", sum := "1071f212da4bbd51d2b6d0c57f7158c53c74a78c7a0e055ce540705681e0532e", func := "loop.example/g00920/laws.FnExactDesignOfSchedule", spec := "fnExactDesignOfSchedule", unfollowed := true, recurses := true, apart := false, narrowed := true }
def FnExactDesignOfScheduleUptoSaid : Prop := fnExactDesignOfScheduleUptoRow.holds Try.pinned (OpenSpec.upto fnExactDesignOfScheduleSpec)

/-- 'laws.FnExactPlaneOfMols', WHERE WHAT IT READS IS OF BULK AT MOST 1048576: true; the input reads as it did. -/
def fnExactPlaneOfMolsUptoRow : OpenClaim := { program := "ytamklliaibfljaa", sum := "1071f212da4bbd51d2b6d0c57f7158c53c74a78c7a0e055ce540705681e0532e", func := "loop.example/g00920/laws.FnExactPlaneOfMols", spec := "fnExactPlaneOfMols", unfollowed := true, recurses := true, apart := false, narrowed := true }
def FnExactPlaneOfMolsUptoSaid : Prop := fnExactPlaneOfMolsUptoRow.holds Try.pinned (OpenSpec.upto fnExactPlaneOfMolsSpec)

/-- 'laws.FnExactProductTriples', WHERE WHAT IT READS IS OF BULK AT MOST 1048576: true; the input reads as it did. -/
def fnExactProductTriplesUptoRow : OpenClaim := { program := "ytamklliaibfljaa", sum := "1071f212da4bbd51d2b6d0c57f7158c53c74a78c7a0e055ce540705681e0532e", func := "loop.example/g00920/laws.FnExactProductTriples", spec := "fnExactProductTriples", unfollowed := true, recurses := true, apart := false, narrowed := true }
def FnExactProductTriplesUptoSaid : Prop := fnExactProductTriplesUptoRow.holds Try.pinned (OpenSpec.upto fnExactProductTriplesSpec)

end Rows
end Go.Proofs.Ytamklliaibfljaa
