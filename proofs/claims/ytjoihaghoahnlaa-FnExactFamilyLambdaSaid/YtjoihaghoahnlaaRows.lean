/-
  No cell of these rows narrows 'for every input' (looked for: loops, veiled, ifaces, maps, wideKeys, modest, calm, conditions, laid).
  DERIVED. THE GIVEN ROWS OF THIS SEAT. 12 by the template 'for every input the law returns true; each argument reads behind the call as it read before'; 0 by the template 'total and deterministic' (their statements: YtjoihaghoahnlaaTotals.lean).
  GIVEN WITH THE SEED: the statements are not yours to turn. If you find one false, say at which input.
  Laid BY PROGRAM, IN A SANDBOX (cutbox-rows.mjs): the forced cells as the released guide's own fill.sh prints them over the translation 6cc622d3be45cfaf… (all of the seat's roots in one cut). By AI agents, Wed Nov 11 2026. No macro, syntax, notation, axiom, sorry.
-/
import Derived.Test.YtjoihaghoahnlaaChecked
import GoSem.Claim
import GoSem.ClaimJoined
import GoSem.ClaimMapViews
import Derived.JoinedTies
import Derived.KernelRfl
namespace Go.Proofs.Ytjoihaghoahnlaa
/- THE CELL 'sum', in the pinned program and in every row, IS THE sha256 OF THE DUMP (.gsa) THAT YtjoihaghoahnlaaProg.lean LOADS. Nothing in Lean hashes anything: it is a label: what it is worth is what the hold of that sum in a sandbox is worth. -/
noncomputable def Try.pinned : Pinned := { name := "ytjoihaghoahnlaa", sum := "6cc622d3be45cfaf35b6002d7c8eaed2d462b5198ac23c3d33b8ee17bc7b228a", checked := Try.checked }
namespace Rows
def none {H : Type} : Left H := { results := [], args := [] }

/-- 'laws.FnExactTripleOrders': WHATEVER THE INPUT: true; the input reads as it did. -/
def fnExactTripleOrdersSpec : ChangeSpec := { name := "fnExactTripleOrders", fn := fun _ => fun
  | [] => { results := [.lit (.bool true)], args := [] }
  | _ => none }
def fnExactTripleOrdersRow : OpenClaim := { program := "ytjoihaghoahnlaa", sum := "6cc622d3be45cfaf35b6002d7c8eaed2d462b5198ac23c3d33b8ee17bc7b228a", func := "loop.example/g00920/laws.FnExactTripleOrders", spec := "fnExactTripleOrders", apart := false }
def FnExactTripleOrdersSaid : Prop := fnExactTripleOrdersRow.holds Try.pinned (OpenSpec.ofChange fnExactTripleOrdersSpec)

/-- ITS FALSE NEIGHBOUR: 'it returns false'. Refute it at one input. -/
def fnExactTripleOrdersWrong : ChangeSpec := { name := "fnExactTripleOrders", fn := fun _ => fun
  | [] => { results := [.lit (.bool false)], args := [] }
  | _ => none }
def FnExactTripleOrdersWrongFalsely : Prop := fnExactTripleOrdersRow.holds Try.pinned (OpenSpec.ofChange fnExactTripleOrdersWrong)

/-- 'laws.FnExactSylvesterMatrix': WHATEVER THE INPUT: true; the input reads as it did. -/
def fnExactSylvesterMatrixSpec : ChangeSpec := { name := "fnExactSylvesterMatrix", fn := fun _ => fun
  | [d] => { results := [.lit (.bool true)], args := [d] }
  | _ => none }
def fnExactSylvesterMatrixRow : OpenClaim := { program := "ytjoihaghoahnlaa", sum := "6cc622d3be45cfaf35b6002d7c8eaed2d462b5198ac23c3d33b8ee17bc7b228a", func := "loop.example/g00920/laws.FnExactSylvesterMatrix", spec := "fnExactSylvesterMatrix", unfollowed := true, recurses := true, apart := false }
def FnExactSylvesterMatrixSaid : Prop := fnExactSylvesterMatrixRow.holds Try.pinned (OpenSpec.ofChange fnExactSylvesterMatrixSpec)

/-- ITS FALSE NEIGHBOUR: 'it returns false'. Refute it at one input. -/
def fnExactSylvesterMatrixWrong : ChangeSpec := { name := "fnExactSylvesterMatrix", fn := fun _ => fun
  | [d] => { results := [.lit (.bool false)], args := [d] }
  | _ => none }
def FnExactSylvesterMatrixWrongFalsely : Prop := fnExactSylvesterMatrixRow.holds Try.pinned (OpenSpec.ofChange fnExactSylvesterMatrixWrong)

/-- 'laws.FnExactPaleySet': WHATEVER THE INPUT: true; the input reads as it did. -/
def fnExactPaleySetSpec : ChangeSpec := { name := "fnExactPaleySet", fn := fun _ => fun
  | [d] => { results := [.lit (.bool true)], args := [d] }
  | _ => none }
def fnExactPaleySetRow : OpenClaim := { program := "ytjoihaghoahnlaa", sum := "6cc622d3be45cfaf35b6002d7c8eaed2d462b5198ac23c3d33b8ee17bc7b228a", func := "loop.example/g00920/laws.FnExactPaleySet", spec := "fnExactPaleySet", apart := false }
def FnExactPaleySetSaid : Prop := fnExactPaleySetRow.holds Try.pinned (OpenSpec.ofChange fnExactPaleySetSpec)

/-- ITS FALSE NEIGHBOUR: 'it returns false'. Refute it at one input. -/
def fnExactPaleySetWrong : ChangeSpec := { name := "fnExactPaleySet", fn := fun _ => fun
  | [d] => { results := [.lit (.bool false)], args := [d] }
  | _ => none }
def FnExactPaleySetWrongFalsely : Prop := fnExactPaleySetRow.holds Try.pinned (OpenSpec.ofChange fnExactPaleySetWrong)

/-- 'laws.FnExactValidHadamard': WHATEVER THE INPUT: true; the input reads as it did. -/
def fnExactValidHadamardSpec : ChangeSpec := { name := "fnExactValidHadamard", fn := fun _ => fun
  | [d] => { results := [.lit (.bool true)], args := [d] }
  | _ => none }
def fnExactValidHadamardRow : OpenClaim := { program := "ytjoihaghoahnlaa", sum := "6cc622d3be45cfaf35b6002d7c8eaed2d462b5198ac23c3d33b8ee17bc7b228a", func := "loop.example/g00920/laws.FnExactValidHadamard", spec := "fnExactValidHadamard", unfollowed := true, recurses := true, apart := false }
def FnExactValidHadamardSaid : Prop := fnExactValidHadamardRow.holds Try.pinned (OpenSpec.ofChange fnExactValidHadamardSpec)

/-- ITS FALSE NEIGHBOUR: 'it returns false'. Refute it at one input. -/
def fnExactValidHadamardWrong : ChangeSpec := { name := "fnExactValidHadamard", fn := fun _ => fun
  | [d] => { results := [.lit (.bool false)], args := [d] }
  | _ => none }
def FnExactValidHadamardWrongFalsely : Prop := fnExactValidHadamardRow.holds Try.pinned (OpenSpec.ofChange fnExactValidHadamardWrong)

/-- 'laws.FnExactExcessOf': WHATEVER THE INPUT: true; the input reads as it did. -/
def fnExactExcessOfSpec : ChangeSpec := { name := "fnExactExcessOf", fn := fun _ => fun
  | [d] => { results := [.lit (.bool true)], args := [d] }
  | _ => none }
def fnExactExcessOfRow : OpenClaim := { program := "ytjoihaghoahnlaa", sum := "6cc622d3be45cfaf35b6002d7c8eaed2d462b5198ac23c3d33b8ee17bc7b228a", func := "loop.example/g00920/laws.FnExactExcessOf", spec := "fnExactExcessOf", unfollowed := true, recurses := true, apart := false }
def FnExactExcessOfSaid : Prop := fnExactExcessOfRow.holds Try.pinned (OpenSpec.ofChange fnExactExcessOfSpec)

/-- ITS FALSE NEIGHBOUR: 'it returns false'. Refute it at one input. -/
def fnExactExcessOfWrong : ChangeSpec := { name := "fnExactExcessOf", fn := fun _ => fun
  | [d] => { results := [.lit (.bool false)], args := [d] }
  | _ => none }
def FnExactExcessOfWrongFalsely : Prop := fnExactExcessOfRow.holds Try.pinned (OpenSpec.ofChange fnExactExcessOfWrong)

/-- 'laws.FnExactDifferenceTable': WHATEVER THE INPUT: true; the input reads as it did. -/
def fnExactDifferenceTableSpec : ChangeSpec := { name := "fnExactDifferenceTable", fn := fun _ => fun
  | [d1, d2] => { results := [.lit (.bool true)], args := [d1, d2] }
  | _ => none }
def fnExactDifferenceTableRow : OpenClaim := { program := "ytjoihaghoahnlaa", sum := "6cc622d3be45cfaf35b6002d7c8eaed2d462b5198ac23c3d33b8ee17bc7b228a", func := "loop.example/g00920/laws.FnExactDifferenceTable", spec := "fnExactDifferenceTable", unfollowed := true, recurses := true, apart := false }
def FnExactDifferenceTableSaid : Prop := fnExactDifferenceTableRow.holds Try.pinned (OpenSpec.ofChange fnExactDifferenceTableSpec)

/-- ITS FALSE NEIGHBOUR: 'it returns false'. Refute it at one input. -/
def fnExactDifferenceTableWrong : ChangeSpec := { name := "fnExactDifferenceTable", fn := fun _ => fun
  | [d1, d2] => { results := [.lit (.bool false)], args := [d1, d2] }
  | _ => none }
def FnExactDifferenceTableWrongFalsely : Prop := fnExactDifferenceTableRow.holds Try.pinned (OpenSpec.ofChange fnExactDifferenceTableWrong)

/-- 'laws.FnExactProductTriples': WHATEVER THE INPUT: true; the input reads as it did. -/
def fnExactProductTriplesSpec : ChangeSpec := { name := "fnExactProductTriples", fn := fun _ => fun
  | [d1, d2] => { results := [.lit (.bool true)], args := [d1, d2] }
  | _ => none }
def fnExactProductTriplesRow : OpenClaim := { program := "ytjoihaghoahnlaa", sum := "6cc622d3be45cfaf35b6002d7c8eaed2d462b5198ac23c3d33b8ee17bc7b228a", func := "loop.example/g00920/laws.FnExactProductTriples", spec := "fnExactProductTriples", unfollowed := true, recurses := true, apart := false }
def FnExactProductTriplesSaid : Prop := fnExactProductTriplesRow.holds Try.pinned (OpenSpec.ofChange fnExactProductTriplesSpec)

/-- ITS FALSE NEIGHBOUR: 'it returns false'. Refute it at one input. -/
def fnExactProductTriplesWrong : ChangeSpec := { name := "fnExactProductTriples", fn := fun _ => fun
  | [d1, d2] => { results := [.lit (.bool false)], args := [d1, d2] }
  | _ => none }
def FnExactProductTriplesWrongFalsely : Prop := fnExactProductTriplesRow.holds Try.pinned (OpenSpec.ofChange fnExactProductTriplesWrong)

/-- 'laws.FnExactFamilyLambda': WHATEVER THE INPUT: true; the input reads as it did. -/
def fnExactFamilyLambdaSpec : ChangeSpec := { name := "fnExactFamilyLambda", fn := fun _ => fun
  | [d1, d2] => { results := [.lit (.bool true)], args := [d1, d2] }
  | _ => none }
def fnExactFamilyLambdaRow : OpenClaim := { program := "ytjoihaghoahnlaa", sum := "6cc622d3be45cfaf35b6002d7c8eaed2d462b5198ac23c3d33b8ee17bc7b228a", func := "loop.example/g00920/laws.FnExactFamilyLambda", spec := "fnExactFamilyLambda", unfollowed := true, recurses := true, apart := false }
def FnExactFamilyLambdaSaid : Prop := fnExactFamilyLambdaRow.holds Try.pinned (OpenSpec.ofChange fnExactFamilyLambdaSpec)

/-- ITS FALSE NEIGHBOUR: 'it returns false'. Refute it at one input. -/
def fnExactFamilyLambdaWrong : ChangeSpec := { name := "fnExactFamilyLambda", fn := fun _ => fun
  | [d1, d2] => { results := [.lit (.bool false)], args := [d1, d2] }
  | _ => none }
def FnExactFamilyLambdaWrongFalsely : Prop := fnExactFamilyLambdaRow.holds Try.pinned (OpenSpec.ofChange fnExactFamilyLambdaWrong)

/-- 'laws.FnExactTransposeHadamard': WHATEVER THE INPUT: true; the input reads as it did. -/
def fnExactTransposeHadamardSpec : ChangeSpec := { name := "fnExactTransposeHadamard", fn := fun _ => fun
  | [d] => { results := [.lit (.bool true)], args := [d] }
  | _ => none }
def fnExactTransposeHadamardRow : OpenClaim := { program := "ytjoihaghoahnlaa", sum := "6cc622d3be45cfaf35b6002d7c8eaed2d462b5198ac23c3d33b8ee17bc7b228a", func := "loop.example/g00920/laws.FnExactTransposeHadamard", spec := "fnExactTransposeHadamard", unfollowed := true, recurses := true, apart := false }
def FnExactTransposeHadamardSaid : Prop := fnExactTransposeHadamardRow.holds Try.pinned (OpenSpec.ofChange fnExactTransposeHadamardSpec)

/-- ITS FALSE NEIGHBOUR: 'it returns false'. Refute it at one input. -/
def fnExactTransposeHadamardWrong : ChangeSpec := { name := "fnExactTransposeHadamard", fn := fun _ => fun
  | [d] => { results := [.lit (.bool false)], args := [d] }
  | _ => none }
def FnExactTransposeHadamardWrongFalsely : Prop := fnExactTransposeHadamardRow.holds Try.pinned (OpenSpec.ofChange fnExactTransposeHadamardWrong)

/-- 'laws.FnExactProductHadamard': WHATEVER THE INPUT: true; the input reads as it did. -/
def fnExactProductHadamardSpec : ChangeSpec := { name := "fnExactProductHadamard", fn := fun _ => fun
  | [d1, d2] => { results := [.lit (.bool true)], args := [d1, d2] }
  | _ => none }
def fnExactProductHadamardRow : OpenClaim := { program := "ytjoihaghoahnlaa", sum := "6cc622d3be45cfaf35b6002d7c8eaed2d462b5198ac23c3d33b8ee17bc7b228a", func := "loop.example/g00920/laws.FnExactProductHadamard", spec := "fnExactProductHadamard", unfollowed := true, recurses := true, apart := false }
def FnExactProductHadamardSaid : Prop := fnExactProductHadamardRow.holds Try.pinned (OpenSpec.ofChange fnExactProductHadamardSpec)

/-- ITS FALSE NEIGHBOUR: 'it returns false'. Refute it at one input. -/
def fnExactProductHadamardWrong : ChangeSpec := { name := "fnExactProductHadamard", fn := fun _ => fun
  | [d1, d2] => { results := [.lit (.bool false)], args := [d1, d2] }
  | _ => none }
def FnExactProductHadamardWrongFalsely : Prop := fnExactProductHadamardRow.holds Try.pinned (OpenSpec.ofChange fnExactProductHadamardWrong)

/-- 'laws.FnExactNegateLine': WHATEVER THE INPUT: true; the input reads as it did. -/
def fnExactNegateLineSpec : ChangeSpec := { name := "fnExactNegateLine", fn := fun _ => fun
  | [d1, d2, d3] => { results := [.lit (.bool true)], args := [d1, d2, d3] }
  | _ => none }
def fnExactNegateLineRow : OpenClaim := { program := "ytjoihaghoahnlaa", sum := "6cc622d3be45cfaf35b6002d7c8eaed2d462b5198ac23c3d33b8ee17bc7b228a", func := "loop.example/g00920/laws.FnExactNegateLine", spec := "fnExactNegateLine", unfollowed := true, recurses := true, apart := false }
def FnExactNegateLineSaid : Prop := fnExactNegateLineRow.holds Try.pinned (OpenSpec.ofChange fnExactNegateLineSpec)

/-- ITS FALSE NEIGHBOUR: 'it returns false'. Refute it at one input. -/
def fnExactNegateLineWrong : ChangeSpec := { name := "fnExactNegateLine", fn := fun _ => fun
  | [d1, d2, d3] => { results := [.lit (.bool false)], args := [d1, d2, d3] }
  | _ => none }
def FnExactNegateLineWrongFalsely : Prop := fnExactNegateLineRow.holds Try.pinned (OpenSpec.ofChange fnExactNegateLineWrong)

/-- 'laws.FnExactNormalHadamard': WHATEVER THE INPUT: true; the input reads as it did. -/
def fnExactNormalHadamardSpec : ChangeSpec := { name := "fnExactNormalHadamard", fn := fun _ => fun
  | [d] => { results := [.lit (.bool true)], args := [d] }
  | _ => none }
def fnExactNormalHadamardRow : OpenClaim := { program := "ytjoihaghoahnlaa", sum := "6cc622d3be45cfaf35b6002d7c8eaed2d462b5198ac23c3d33b8ee17bc7b228a", func := "loop.example/g00920/laws.FnExactNormalHadamard", spec := "fnExactNormalHadamard", unfollowed := true, recurses := true, apart := false }
def FnExactNormalHadamardSaid : Prop := fnExactNormalHadamardRow.holds Try.pinned (OpenSpec.ofChange fnExactNormalHadamardSpec)

/-- ITS FALSE NEIGHBOUR: 'it returns false'. Refute it at one input. -/
def fnExactNormalHadamardWrong : ChangeSpec := { name := "fnExactNormalHadamard", fn := fun _ => fun
  | [d] => { results := [.lit (.bool false)], args := [d] }
  | _ => none }
def FnExactNormalHadamardWrongFalsely : Prop := fnExactNormalHadamardRow.holds Try.pinned (OpenSpec.ofChange fnExactNormalHadamardWrong)

/- THE SECOND FORM. 'bulk': how many values and letters a reading holds, each counted each time it is reached (what is shared counts as often as it is met; a slice's spare places count too). A statement '..UptoSaid' is the law's where the arguments, and the package variables that the reading takes, are together of bulk at most 1048576: NARROWER than '..Said'. Prove '..Said' where nothing that the law and all that it calls make is longer than what came in: it says more and counts as full. Else prove '..UptoSaid'. A law counts once. -/
mutual
def uptoBulk {H : Type} : DataW H → Nat
  | .lit (.string bytes) => bytes.length + 1
  | .lit _ => 1
  | .nil => 1
  | .ptr d => uptoBulk d + 1
  | .slice elems spare => uptoBulkAll elems + uptoBulkAll spare + 1
  | .agg parts => uptoBulkAll parts + 1
  | .iface _ d => uptoBulk d + 1
  | .map entries => uptoBulkEntries entries + 1
  | .held _ => 1
def uptoBulkAll {H : Type} : List (DataW H) → Nat
  | [] => 0
  | d :: r => uptoBulk d + uptoBulkAll r
def uptoBulkEntries {H : Type} : List (Lit × DataW H) → Nat
  | [] => 0
  | x :: r => uptoBulkEntry x + uptoBulkEntries r
def uptoBulkEntry {H : Type} : Lit × DataW H → Nat
  | (.string bytes, d) => bytes.length + uptoBulk d + 1
  | (_, d) => uptoBulk d + 1
 end
def uptoSmall : (H : Type) → List (DataW H) → Bool := fun _ ds => decide (uptoBulkAll ds ≤ 1048576)
def OpenSpec.upto (s : _root_.Go.ChangeSpec) : _root_.Go.OpenSpec := { _root_.Go.OpenSpec.ofChange s with cond := some uptoSmall }

/-- 'laws.FnExactTripleOrders', WHERE WHAT IT READS IS OF BULK AT MOST 1048576: true; the input reads as it did. -/
def fnExactTripleOrdersUptoRow : OpenClaim := { program := "ytjoihaghoahnlaa", sum := "6cc622d3be45cfaf35b6002d7c8eaed2d462b5198ac23c3d33b8ee17bc7b228a", func := "loop.example/g00920/laws.FnExactTripleOrders", spec := "fnExactTripleOrders", apart := false, narrowed := true }
def FnExactTripleOrdersUptoSaid : Prop := fnExactTripleOrdersUptoRow.holds Try.pinned (OpenSpec.upto fnExactTripleOrdersSpec)

/-- 'laws.FnExactSylvesterMatrix', WHERE WHAT IT READS IS OF BULK AT MOST 1048576: true; the input reads as it did. -/
def fnExactSylvesterMatrixUptoRow : OpenClaim := { program := "ytjoihaghoahnlaa", sum := "6cc622d3be45cfaf35b6002d7c8eaed2d462b5198ac23c3d33b8ee17bc7b228a", func := "loop.example/g00920/laws.FnExactSylvesterMatrix", spec := "fnExactSylvesterMatrix", unfollowed := true, recurses := true, apart := false, narrowed := true }
def FnExactSylvesterMatrixUptoSaid : Prop := fnExactSylvesterMatrixUptoRow.holds Try.pinned (OpenSpec.upto fnExactSylvesterMatrixSpec)

/-- 'laws.FnExactPaleySet', WHERE WHAT IT READS IS OF BULK AT MOST 1048576: true; the input reads as it did. -/
def fnExactPaleySetUptoRow : OpenClaim := { program := "ytjoihaghoahnlaa", sum := "6cc622d3be45cfaf35b6002d7c8eaed2d462b5198ac23c3d33b8ee17bc7b228a", func := "loop.example/g00920/laws.FnExactPaleySet", spec := "fnExactPaleySet", apart := false, narrowed := true }
def FnExactPaleySetUptoSaid : Prop := fnExactPaleySetUptoRow.holds Try.pinned (OpenSpec.upto fnExactPaleySetSpec)

/-- 'laws.FnExactValidHadamard', WHERE WHAT IT READS IS OF BULK AT MOST 1048576: true; the input reads as it did. -/
def fnExactValidHadamardUptoRow : OpenClaim := { program := "ytjoihaghoahnlaa", sum := "6cc622d3be45cfaf35b6002d7c8eaed2d462b5198ac23c3d33b8ee17bc7b228a", func := "loop.example/g00920/laws.FnExactValidHadamard", spec := "fnExactValidHadamard", unfollowed := true, recurses := true, apart := false, narrowed := true }
def FnExactValidHadamardUptoSaid : Prop := fnExactValidHadamardUptoRow.holds Try.pinned (OpenSpec.upto fnExactValidHadamardSpec)

/-- 'laws.FnExactExcessOf', WHERE WHAT IT READS IS OF BULK AT MOST 1048576: true; the input reads as it did. -/
def fnExactExcessOfUptoRow : OpenClaim := { program := "ytjoihaghoahnlaa", sum := "6cc622d3be45cfaf35b6002d7c8eaed2d462b5198ac23c3d33b8ee17bc7b228a", func := "loop.example/g00920/laws.FnExactExcessOf", spec := "fnExactExcessOf", unfollowed := true, recurses := true, apart := false, narrowed := true }
def FnExactExcessOfUptoSaid : Prop := fnExactExcessOfUptoRow.holds Try.pinned (OpenSpec.upto fnExactExcessOfSpec)

/-- 'laws.FnExactDifferenceTable', WHERE WHAT IT READS IS OF BULK AT MOST 1048576: true; the input reads as it did. -/
def fnExactDifferenceTableUptoRow : OpenClaim := { program := "ytjoihaghoahnlaa", sum := "6cc622d3be45cfaf35b6002d7c8eaed2d462b5198ac23c3d33b8ee17bc7b228a", func := "loop.example/g00920/laws.FnExactDifferenceTable", spec := "fnExactDifferenceTable", unfollowed := true, recurses := true, apart := false, narrowed := true }
def FnExactDifferenceTableUptoSaid : Prop := fnExactDifferenceTableUptoRow.holds Try.pinned (OpenSpec.upto fnExactDifferenceTableSpec)

/-- 'laws.FnExactProductTriples', WHERE WHAT IT READS IS OF BULK AT MOST 1048576: true; the input reads as it did. -/
def fnExactProductTriplesUptoRow : OpenClaim := { program := "ytjoihaghoahnlaa", sum := "6cc622d3be45cfaf35b6002d7c8eaed2d462b5198ac23c3d33b8ee17bc7b228a", func := "loop.example/g00920/laws.FnExactProductTriples", spec := "fnExactProductTriples", unfollowed := true, recurses := true, apart := false, narrowed := true }
def FnExactProductTriplesUptoSaid : Prop := fnExactProductTriplesUptoRow.holds Try.pinned (OpenSpec.upto fnExactProductTriplesSpec)

/-- 'laws.FnExactFamilyLambda', WHERE WHAT IT READS IS OF BULK AT MOST 1048576: true; the input reads as it did. -/
def fnExactFamilyLambdaUptoRow : OpenClaim := { program := "ytjoihaghoahnlaa", sum := "6cc622d3be45cfaf35b6002d7c8eaed2d462b5198ac23c3d33b8ee17bc7b228a", func := "loop.example/g00920/laws.FnExactFamilyLambda", spec := "fnExactFamilyLambda", unfollowed := true, recurses := true, apart := false, narrowed := true }
def FnExactFamilyLambdaUptoSaid : Prop := fnExactFamilyLambdaUptoRow.holds Try.pinned (OpenSpec.upto fnExactFamilyLambdaSpec)

/-- 'laws.FnExactTransposeHadamard', WHERE WHAT IT READS IS OF BULK AT MOST 1048576: true; the input reads as it did. -/
def fnExactTransposeHadamardUptoRow : OpenClaim := { program := "ytjoihaghoahnlaa", sum := "6cc622d3be45cfaf35b6002d7c8eaed2d462b5198ac23c3d33b8ee17bc7b228a", func := "loop.example/g00920/laws.FnExactTransposeHadamard", spec := "fnExactTransposeHadamard", unfollowed := true, recurses := true, apart := false, narrowed := true }
def FnExactTransposeHadamardUptoSaid : Prop := fnExactTransposeHadamardUptoRow.holds Try.pinned (OpenSpec.upto fnExactTransposeHadamardSpec)

/-- 'laws.FnExactProductHadamard', WHERE WHAT IT READS IS OF BULK AT MOST 1048576: true; the input reads as it did. -/
def fnExactProductHadamardUptoRow : OpenClaim := { program := "ytjoihaghoahnlaa", sum := "6cc622d3be45cfaf35b6002d7c8eaed2d462b5198ac23c3d33b8ee17bc7b228a", func := "loop.example/g00920/laws.FnExactProductHadamard", spec := "fnExactProductHadamard", unfollowed := true, recurses := true, apart := false, narrowed := true }
def FnExactProductHadamardUptoSaid : Prop := fnExactProductHadamardUptoRow.holds Try.pinned (OpenSpec.upto fnExactProductHadamardSpec)

/-- 'laws.FnExactNegateLine', WHERE WHAT IT READS IS OF BULK AT MOST 1048576: true; the input reads as it did. -/
def fnExactNegateLineUptoRow : OpenClaim := { program := "ytjoihaghoahnlaa", sum := "6cc622d3be45cfaf35b6002d7c8eaed2d462b5198ac23c3d33b8ee17bc7b228a", func := "loop.example/g00920/laws.FnExactNegateLine", spec := "fnExactNegateLine", unfollowed := true, recurses := true, apart := false, narrowed := true }
def FnExactNegateLineUptoSaid : Prop := fnExactNegateLineUptoRow.holds Try.pinned (OpenSpec.upto fnExactNegateLineSpec)

/-- 'laws.FnExactNormalHadamard', WHERE WHAT IT READS IS OF BULK AT MOST 1048576: true; the input reads as it did. -/
def fnExactNormalHadamardUptoRow : OpenClaim := { program := "ytjoihaghoahnlaa", sum := "6cc622d3be45cfaf35b6002d7c8eaed2d462b5198ac23c3d33b8ee17bc7b228a", func := "loop.example/g00920/laws.FnExactNormalHadamard", spec := "fnExactNormalHadamard", unfollowed := true, recurses := true, apart := false, narrowed := true }
def FnExactNormalHadamardUptoSaid : Prop := fnExactNormalHadamardUptoRow.holds Try.pinned (OpenSpec.upto fnExactNormalHadamardSpec)

end Rows
end Go.Proofs.Ytjoihaghoahnlaa
