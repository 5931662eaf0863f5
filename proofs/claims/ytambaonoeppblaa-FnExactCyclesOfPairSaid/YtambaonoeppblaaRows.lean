/-
  No cell of these rows narrows 'for every input' (looked for: loops, veiled, ifaces, maps, wideKeys, modest, calm, conditions, laid).
  DERIVED. THE GIVEN ROWS OF THIS SEAT. 3 by the template 'for every input the law returns true; each argument reads behind the call as it read before'; 0 by the template 'total and deterministic' (their statements: YtambaonoeppblaaTotals.lean).
  GIVEN WITH THE SEED: the statements are not yours to turn. If you find one false, say at which input.
  Laid BY PROGRAM, IN A SANDBOX (cutbox-rows.mjs): the forced cells as the released guide's own fill.sh prints them over the translation 54cc0aaac63e61ef… (all of the seat's roots in one cut). By AI agents, Wed Nov 11 2026. No macro, syntax, notation, axiom, sorry.
-/
import Derived.Test.YtambaonoeppblaaChecked
import GoSem.Claim
import GoSem.ClaimJoined
import GoSem.ClaimMapViews
import Derived.JoinedTies
import Derived.KernelRfl
namespace Go.Proofs.Ytambaonoeppblaa
/- THE CELL 'sum', in the pinned program and in every row, IS THE sha256 OF THE DUMP (.gsa) THAT YtambaonoeppblaaProg.lean LOADS. Nothing in Lean hashes anything: it is a label: what it is worth is what the hold of that sum in a sandbox is worth. -/
noncomputable def Try.pinned : Pinned := { name := "ytambaonoeppblaa", sum := "54cc0aaac63e61ef03cbdf5d540f7fb24c1608428b0707a2d54819cfd7eb8545", checked := Try.checked }
namespace Rows
def none {H : Type} : Left H := { results := [], args := [] }

/-- 'laws.FnExactMakeTriples': WHATEVER THE INPUT: true; the input reads as it did. -/
def fnExactMakeTriplesSpec : ChangeSpec := { name := "fnExactMakeTriples", fn := fun _ => fun
  | [d] => { results := [.lit (.bool true)], args := [d] }
  | _ => none }
def fnExactMakeTriplesRow : OpenClaim := { program := "ytambaonoeppblaa", sum := "54cc0aaac63e61ef03cbdf5d540f7fb24c1608428b0707a2d54819cfd7eb8545", func := "loop.example/g00920/laws.FnExactMakeTriples", spec := "fnExactMakeTriples", unfollowed := true, recurses := true, apart := false }
def FnExactMakeTriplesSaid : Prop := fnExactMakeTriplesRow.holds Try.pinned (OpenSpec.ofChange fnExactMakeTriplesSpec)

/-- ITS FALSE NEIGHBOUR: 'it returns false'. Refute it at one input. -/
def fnExactMakeTriplesWrong : ChangeSpec := { name := "fnExactMakeTriples", fn := fun _ => fun
  | [d] => { results := [.lit (.bool false)], args := [d] }
  | _ => none }
def FnExactMakeTriplesWrongFalsely : Prop := fnExactMakeTriplesRow.holds Try.pinned (OpenSpec.ofChange fnExactMakeTriplesWrong)

/-- 'laws.FnExactCyclesOfPair': WHATEVER THE INPUT: true; the input reads as it did. -/
def fnExactCyclesOfPairSpec : ChangeSpec := { name := "fnExactCyclesOfPair", fn := fun _ => fun
  | [d1, d2, d3] => { results := [.lit (.bool true)], args := [d1, d2, d3] }
  | _ => none }
def fnExactCyclesOfPairRow : OpenClaim := { program := "ytambaonoeppblaa", sum := "54cc0aaac63e61ef03cbdf5d540f7fb24c1608428b0707a2d54819cfd7eb8545", func := "loop.example/g00920/laws.FnExactCyclesOfPair", spec := "fnExactCyclesOfPair", unfollowed := true, recurses := true, apart := false }
def FnExactCyclesOfPairSaid : Prop := fnExactCyclesOfPairRow.holds Try.pinned (OpenSpec.ofChange fnExactCyclesOfPairSpec)

/-- ITS FALSE NEIGHBOUR: 'it returns false'. Refute it at one input. -/
def fnExactCyclesOfPairWrong : ChangeSpec := { name := "fnExactCyclesOfPair", fn := fun _ => fun
  | [d1, d2, d3] => { results := [.lit (.bool false)], args := [d1, d2, d3] }
  | _ => none }
def FnExactCyclesOfPairWrongFalsely : Prop := fnExactCyclesOfPairRow.holds Try.pinned (OpenSpec.ofChange fnExactCyclesOfPairWrong)

/-- 'laws.FnExactProductTriples': WHATEVER THE INPUT: true; the input reads as it did. -/
def fnExactProductTriplesSpec : ChangeSpec := { name := "fnExactProductTriples", fn := fun _ => fun
  | [d1, d2] => { results := [.lit (.bool true)], args := [d1, d2] }
  | _ => none }
def fnExactProductTriplesRow : OpenClaim := { program := "ytambaonoeppblaa", sum := "54cc0aaac63e61ef03cbdf5d540f7fb24c1608428b0707a2d54819cfd7eb8545", func := "loop.example/g00920/laws.FnExactProductTriples", spec := "fnExactProductTriples", unfollowed := true, recurses := true, apart := false }
def FnExactProductTriplesSaid : Prop := fnExactProductTriplesRow.holds Try.pinned (OpenSpec.ofChange fnExactProductTriplesSpec)

/-- ITS FALSE NEIGHBOUR: 'it returns false'. Refute it at one input. -/
def fnExactProductTriplesWrong : ChangeSpec := { name := "fnExactProductTriples", fn := fun _ => fun
  | [d1, d2] => { results := [.lit (.bool false)], args := [d1, d2] }
  | _ => none }
def FnExactProductTriplesWrongFalsely : Prop := fnExactProductTriplesRow.holds Try.pinned (OpenSpec.ofChange fnExactProductTriplesWrong)

/- THE SECOND FORM. 'bulk': how many values and letters a reading holds, each counted each time it is reached (what is shared counts as often as it is met; a slice's spare places count too). A statement '..UptoSaid' is the law's where the arguments, and the package variables that the reading takes, are together of bulk at most 1048576: NARROWER than '..Said'. Prove '..Said' where nothing that the law and all that it calls make is longer than what came in: it says more and counts as full. Else prove '..UptoSaid'. A law counts once. -/
mutual
def uptoBulk {H : Type} : DataW H → Nat
  | .lit (.string bytes) => bytes.length + 1
  | .lit _ => 1
  | .nil => 1
  | .ptr d => uptoBulk d + 1
  | .slice elems spare => uptoBulkAll elems + uptoBulkAll spare + 1
  | .agg parts => uptoBulkAll parts + 1
  | .iface _ d => uptoBulk d + 1
  | .map entries => uptoBulkEntries entries + 1
  | .held _ => 1
def uptoBulkAll {H : Type} : List (DataW H) → Nat
  | [] => 0
  | d :: r => uptoBulk d + uptoBulkAll r
def uptoBulkEntries {H : Type} : List (Lit × DataW H) → Nat
  | [] => 0
  | x :: r => uptoBulkEntry x + uptoBulkEntries r
def uptoBulkEntry {H : Type} : Lit × DataW H → Nat
  | (.string bytes, d) => bytes.length + uptoBulk d + 1
  | (_, d) => uptoBulk d + 1
 end
def uptoSmall : (H : Type) → List (DataW H) → Bool := fun _ ds => decide (uptoBulkAll ds ≤ 1048576)
def OpenSpec.upto (s : _root_.Go.ChangeSpec) : _root_.Go.OpenSpec := { _root_.Go.OpenSpec.ofChange s with cond := some uptoSmall }

/-- 'laws.FnExactMakeTriples', WHERE WHAT IT READS IS OF BULK AT MOST 1048576: true; the input reads as it did. -/
def fnExactMakeTriplesUptoRow : OpenClaim := { program := "ytambaonoeppblaa", sum := "54cc0aaac63e61ef03cbdf5d540f7fb24c1608428b0707a2d54819cfd7eb8545", func := "loop.example/g00920/laws.FnExactMakeTriples", spec := "fnExactMakeTriples", unfollowed := true, recurses := true, apart := false, narrowed := true }
def FnExactMakeTriplesUptoSaid : Prop := fnExactMakeTriplesUptoRow.holds Try.pinned (OpenSpec.upto fnExactMakeTriplesSpec)

/-- 'laws.FnExactCyclesOfPair', WHERE WHAT IT READS IS OF BULK AT MOST 1048576: true; the input reads as it did. -/
def fnExactCyclesOfPairUptoRow : OpenClaim := { program := "ytambaonoeppblaa", sum := "54cc0aaac63e61ef03cbdf5d540f7fb24c1608428b0707a2d54819cfd7eb8545", func := "loop.example/g00920/laws.FnExactCyclesOfPair", spec := "fnExactCyclesOfPair", unfollowed := true, recurses := true, apart := false, narrowed := true }
def FnExactCyclesOfPairUptoSaid : Prop := fnExactCyclesOfPairUptoRow.holds Try.pinned (OpenSpec.upto fnExactCyclesOfPairSpec)

/-- 'laws.FnExactProductTriples', WHERE WHAT IT READS IS OF BULK AT MOST 1048576: true; the input reads as it did. -/
def fnExactProductTriplesUptoRow : OpenClaim := { program := "ytambaonoeppblaa", sum := "54cc0aaac63e61ef03cbdf5d540f7fb24c1608428b0707a2d54819cfd7eb8545", func := "loop.example/g00920/laws.FnExactProductTriples", spec := "fnExactProductTriples", unfollowed := true, recurses := true, apart := false, narrowed := true }
def FnExactProductTriplesUptoSaid : Prop := fnExactProductTriplesUptoRow.holds Try.pinned (OpenSpec.upto fnExactProductTriplesSpec)

end Rows
end Go.Proofs.Ytambaonoeppblaa
