/-
  No cell of these rows narrows 'for every input' (looked for: loops, veiled, ifaces, maps, wideKeys, modest, calm, conditions, laid).
  DERIVED. THE GIVEN ROWS OF THIS SEAT. 9 by the template 'for every input the law returns true; each argument reads behind the call as it read before'; 0 by the template 'total and deterministic' (their statements: YtdneldecedbepaaTotals.lean).
  GIVEN WITH THE SEED: the statements are not yours to turn. If you find one false, say at which input.
  Laid BY PROGRAM, IN A SANDBOX (cutbox-rows.mjs): the forced cells as the released guide's own fill.sh prints them over the translation f8c7d21c3bfd4a2b… (all of the seat's roots in one cut). By AI agents, Wed Nov 11 2026. No macro, syntax, notation, axiom, sorry.
-/
import Derived.Test.YtdneldecedbepaaChecked
import GoSem.Claim
import GoSem.ClaimJoined
import GoSem.ClaimMapViews
import Derived.JoinedTies
import Derived.KernelRfl
namespace Go.Proofs.Ytdneldecedbepaa
/- THE CELL 'sum', in the pinned program and in every row, IS THE sha256 OF THE DUMP (.gsa) THAT YtdneldecedbepaaProg.lean LOADS. Nothing in Lean hashes anything: it is a label: what it is worth is what the hold of that sum in a sandbox is worth. -/
noncomputable def Try.pinned : Pinned := { name := "ytdneldecedbepaa", sum := "f8c7d21c3bfd4a2b56e3fd8e4b22252c714662d72ed975fb0a6e18133a6b79a1", checked := Try.checked }
namespace Rows
def none {H : Type} : Left H := { results := [], args := [] }

/-- 'laws.FnExactComplementDesign': WHATEVER THE INPUT: true; the input reads as it did. -/
def fnExactComplementDesignSpec : ChangeSpec := { name := "fnExactComplementDesign", fn := fun _ => fun
  | [d] => { results := [.lit (.bool true)], args := [d] }
  | _ => none }
def fnExactComplementDesignRow : OpenClaim := { program := "ytdneldecedbepaa", sum := "f8c7d21c3bfd4a2b56e3fd8e4b22252c714662d72ed975fb0a6e18133a6b79a1", func := "loop.example/g00920/laws.FnExactComplementDesign", spec := "fnExactComplementDesign", unfollowed := true, recurses := true, apart := false }
def FnExactComplementDesignSaid : Prop := fnExactComplementDesignRow.holds Try.pinned (OpenSpec.ofChange fnExactComplementDesignSpec)

/-- ITS FALSE NEIGHBOUR: 'it returns false'. Refute it at one input. -/
def fnExactComplementDesignWrong : ChangeSpec := { name := "fnExactComplementDesign", fn := fun _ => fun
  | [d] => { results := [.lit (.bool false)], args := [d] }
  | _ => none }
def FnExactComplementDesignWrongFalsely : Prop := fnExactComplementDesignRow.holds Try.pinned (OpenSpec.ofChange fnExactComplementDesignWrong)

/-- 'laws.FnExactDerivedDesign': WHATEVER THE INPUT: true; the input reads as it did. -/
def fnExactDerivedDesignSpec : ChangeSpec := { name := "fnExactDerivedDesign", fn := fun _ => fun
  | [d1, d2] => { results := [.lit (.bool true)], args := [d1, d2] }
  | _ => none }
def fnExactDerivedDesignRow : OpenClaim := { program := "ytdneldecedbepaa", sum := "f8c7d21c3bfd4a2b56e3fd8e4b22252c714662d72ed975fb0a6e18133a6b79a1", func := "loop.example/g00920/laws.FnExactDerivedDesign", spec := "fnExactDerivedDesign", unfollowed := true, recurses := true, apart := false }
def FnExactDerivedDesignSaid : Prop := fnExactDerivedDesignRow.holds Try.pinned (OpenSpec.ofChange fnExactDerivedDesignSpec)

/-- ITS FALSE NEIGHBOUR: 'it returns false'. Refute it at one input. -/
def fnExactDerivedDesignWrong : ChangeSpec := { name := "fnExactDerivedDesign", fn := fun _ => fun
  | [d1, d2] => { results := [.lit (.bool false)], args := [d1, d2] }
  | _ => none }
def FnExactDerivedDesignWrongFalsely : Prop := fnExactDerivedDesignRow.holds Try.pinned (OpenSpec.ofChange fnExactDerivedDesignWrong)

/-- 'laws.FnExactResidualDesign': WHATEVER THE INPUT: true; the input reads as it did. -/
def fnExactResidualDesignSpec : ChangeSpec := { name := "fnExactResidualDesign", fn := fun _ => fun
  | [d1, d2] => { results := [.lit (.bool true)], args := [d1, d2] }
  | _ => none }
def fnExactResidualDesignRow : OpenClaim := { program := "ytdneldecedbepaa", sum := "f8c7d21c3bfd4a2b56e3fd8e4b22252c714662d72ed975fb0a6e18133a6b79a1", func := "loop.example/g00920/laws.FnExactResidualDesign", spec := "fnExactResidualDesign", unfollowed := true, recurses := true, apart := false }
def FnExactResidualDesignSaid : Prop := fnExactResidualDesignRow.holds Try.pinned (OpenSpec.ofChange fnExactResidualDesignSpec)

/-- ITS FALSE NEIGHBOUR: 'it returns false'. Refute it at one input. -/
def fnExactResidualDesignWrong : ChangeSpec := { name := "fnExactResidualDesign", fn := fun _ => fun
  | [d1, d2] => { results := [.lit (.bool false)], args := [d1, d2] }
  | _ => none }
def FnExactResidualDesignWrongFalsely : Prop := fnExactResidualDesignRow.holds Try.pinned (OpenSpec.ofChange fnExactResidualDesignWrong)

/-- 'laws.FnExactDualDesign': WHATEVER THE INPUT: true; the input reads as it did. -/
def fnExactDualDesignSpec : ChangeSpec := { name := "fnExactDualDesign", fn := fun _ => fun
  | [d] => { results := [.lit (.bool true)], args := [d] }
  | _ => none }
def fnExactDualDesignRow : OpenClaim := { program := "ytdneldecedbepaa", sum := "f8c7d21c3bfd4a2b56e3fd8e4b22252c714662d72ed975fb0a6e18133a6b79a1", func := "loop.example/g00920/laws.FnExactDualDesign", spec := "fnExactDualDesign", unfollowed := true, recurses := true, apart := false }
def FnExactDualDesignSaid : Prop := fnExactDualDesignRow.holds Try.pinned (OpenSpec.ofChange fnExactDualDesignSpec)

/-- ITS FALSE NEIGHBOUR: 'it returns false'. Refute it at one input. -/
def fnExactDualDesignWrong : ChangeSpec := { name := "fnExactDualDesign", fn := fun _ => fun
  | [d] => { results := [.lit (.bool false)], args := [d] }
  | _ => none }
def FnExactDualDesignWrongFalsely : Prop := fnExactDualDesignRow.holds Try.pinned (OpenSpec.ofChange fnExactDualDesignWrong)

/-- 'laws.FnExactSumDesigns': WHATEVER THE INPUT: true; the input reads as it did. -/
def fnExactSumDesignsSpec : ChangeSpec := { name := "fnExactSumDesigns", fn := fun _ => fun
  | [d1, d2] => { results := [.lit (.bool true)], args := [d1, d2] }
  | _ => none }
def fnExactSumDesignsRow : OpenClaim := { program := "ytdneldecedbepaa", sum := "f8c7d21c3bfd4a2b56e3fd8e4b22252c714662d72ed975fb0a6e18133a6b79a1", func := "loop.example/g00920/laws.FnExactSumDesigns", spec := "fnExactSumDesigns", unfollowed := true, recurses := true, apart := false }
def FnExactSumDesignsSaid : Prop := fnExactSumDesignsRow.holds Try.pinned (OpenSpec.ofChange fnExactSumDesignsSpec)

/-- ITS FALSE NEIGHBOUR: 'it returns false'. Refute it at one input. -/
def fnExactSumDesignsWrong : ChangeSpec := { name := "fnExactSumDesigns", fn := fun _ => fun
  | [d1, d2] => { results := [.lit (.bool false)], args := [d1, d2] }
  | _ => none }
def FnExactSumDesignsWrongFalsely : Prop := fnExactSumDesignsRow.holds Try.pinned (OpenSpec.ofChange fnExactSumDesignsWrong)

/-- 'laws.FnExactMeetingsOf': WHATEVER THE INPUT: true; the input reads as it did. -/
def fnExactMeetingsOfSpec : ChangeSpec := { name := "fnExactMeetingsOf", fn := fun _ => fun
  | [d] => { results := [.lit (.bool true)], args := [d] }
  | _ => none }
def fnExactMeetingsOfRow : OpenClaim := { program := "ytdneldecedbepaa", sum := "f8c7d21c3bfd4a2b56e3fd8e4b22252c714662d72ed975fb0a6e18133a6b79a1", func := "loop.example/g00920/laws.FnExactMeetingsOf", spec := "fnExactMeetingsOf", unfollowed := true, recurses := true, apart := false }
def FnExactMeetingsOfSaid : Prop := fnExactMeetingsOfRow.holds Try.pinned (OpenSpec.ofChange fnExactMeetingsOfSpec)

/-- ITS FALSE NEIGHBOUR: 'it returns false'. Refute it at one input. -/
def fnExactMeetingsOfWrong : ChangeSpec := { name := "fnExactMeetingsOf", fn := fun _ => fun
  | [d] => { results := [.lit (.bool false)], args := [d] }
  | _ => none }
def FnExactMeetingsOfWrongFalsely : Prop := fnExactMeetingsOfRow.holds Try.pinned (OpenSpec.ofChange fnExactMeetingsOfWrong)

/-- 'laws.FnExactDesignOfHadamard': WHATEVER THE INPUT: true; the input reads as it did. -/
def fnExactDesignOfHadamardSpec : ChangeSpec := { name := "fnExactDesignOfHadamard", fn := fun _ => fun
  | [d] => { results := [.lit (.bool true)], args := [d] }
  | _ => none }
def fnExactDesignOfHadamardRow : OpenClaim := { program := "ytdneldecedbepaa", sum := "f8c7d21c3bfd4a2b56e3fd8e4b22252c714662d72ed975fb0a6e18133a6b79a1", func := "loop.example/g00920/laws.FnExactDesignOfHadamard", spec := "fnExactDesignOfHadamard", unfollowed := true, recurses := true, apart := false }
def FnExactDesignOfHadamardSaid : Prop := fnExactDesignOfHadamardRow.holds Try.pinned (OpenSpec.ofChange fnExactDesignOfHadamardSpec)

/-- ITS FALSE NEIGHBOUR: 'it returns false'. Refute it at one input. -/
def fnExactDesignOfHadamardWrong : ChangeSpec := { name := "fnExactDesignOfHadamard", fn := fun _ => fun
  | [d] => { results := [.lit (.bool false)], args := [d] }
  | _ => none }
def FnExactDesignOfHadamardWrongFalsely : Prop := fnExactDesignOfHadamardRow.holds Try.pinned (OpenSpec.ofChange fnExactDesignOfHadamardWrong)

/-- 'laws.FnExactRemoveLine': WHATEVER THE INPUT: true; the input reads as it did. -/
def fnExactRemoveLineSpec : ChangeSpec := { name := "fnExactRemoveLine", fn := fun _ => fun
  | [d1, d2] => { results := [.lit (.bool true)], args := [d1, d2] }
  | _ => none }
def fnExactRemoveLineRow : OpenClaim := { program := "ytdneldecedbepaa", sum := "f8c7d21c3bfd4a2b56e3fd8e4b22252c714662d72ed975fb0a6e18133a6b79a1", func := "loop.example/g00920/laws.FnExactRemoveLine", spec := "fnExactRemoveLine", unfollowed := true, recurses := true, apart := false }
def FnExactRemoveLineSaid : Prop := fnExactRemoveLineRow.holds Try.pinned (OpenSpec.ofChange fnExactRemoveLineSpec)

/-- ITS FALSE NEIGHBOUR: 'it returns false'. Refute it at one input. -/
def fnExactRemoveLineWrong : ChangeSpec := { name := "fnExactRemoveLine", fn := fun _ => fun
  | [d1, d2] => { results := [.lit (.bool false)], args := [d1, d2] }
  | _ => none }
def FnExactRemoveLineWrongFalsely : Prop := fnExactRemoveLineRow.holds Try.pinned (OpenSpec.ofChange fnExactRemoveLineWrong)

/-- 'laws.FnExactRelabelDesign': WHATEVER THE INPUT: true; the input reads as it did. -/
def fnExactRelabelDesignSpec : ChangeSpec := { name := "fnExactRelabelDesign", fn := fun _ => fun
  | [d1, d2] => { results := [.lit (.bool true)], args := [d1, d2] }
  | _ => none }
def fnExactRelabelDesignRow : OpenClaim := { program := "ytdneldecedbepaa", sum := "f8c7d21c3bfd4a2b56e3fd8e4b22252c714662d72ed975fb0a6e18133a6b79a1", func := "loop.example/g00920/laws.FnExactRelabelDesign", spec := "fnExactRelabelDesign", unfollowed := true, recurses := true, apart := false }
def FnExactRelabelDesignSaid : Prop := fnExactRelabelDesignRow.holds Try.pinned (OpenSpec.ofChange fnExactRelabelDesignSpec)

/-- ITS FALSE NEIGHBOUR: 'it returns false'. Refute it at one input. -/
def fnExactRelabelDesignWrong : ChangeSpec := { name := "fnExactRelabelDesign", fn := fun _ => fun
  | [d1, d2] => { results := [.lit (.bool false)], args := [d1, d2] }
  | _ => none }
def FnExactRelabelDesignWrongFalsely : Prop := fnExactRelabelDesignRow.holds Try.pinned (OpenSpec.ofChange fnExactRelabelDesignWrong)

/- THE SECOND FORM. 'bulk': how many values and letters a reading holds, each counted each time it is reached (what is shared counts as often as it is met; a slice's spare places count too). A statement '..UptoSaid' is the law's where the arguments, and the package variables that the reading takes, are together of bulk at most 1048576: NARROWER than '..Said'. Prove '..Said' where nothing that the law and all that it calls make is longer than what came in: it says more and counts as full. Else prove '..UptoSaid'. A law counts once. -/
mutual
def uptoBulk {H : Type} : DataW H → Nat
  | .lit (.string bytes) => bytes.length + 1
  | .lit _ => 1
  | .nil => 1
  | .ptr d => uptoBulk d + 1
  | .slice elems spare => uptoBulkAll elems + uptoBulkAll spare + 1
  | .agg parts => uptoBulkAll parts + 1
  | .iface _ d => uptoBulk d + 1
  | .map entries => uptoBulkEntries entries + 1
  | .held _ => 1
def uptoBulkAll {H : Type} : List (DataW H) → Nat
  | [] => 0
  | d :: r => uptoBulk d + uptoBulkAll r
def uptoBulkEntries {H : Type} : List (Lit × DataW H) → Nat
  | [] => 0
  | x :: r => uptoBulkEntry x + uptoBulkEntries r
def uptoBulkEntry {H : Type} : Lit × DataW H → Nat
  | (.string bytes, d) => bytes.length + uptoBulk d + 1
  | (_, d) => uptoBulk d + 1
 end
def uptoSmall : (H : Type) → List (DataW H) → Bool := fun _ ds => decide (uptoBulkAll ds ≤ 1048576)
def OpenSpec.upto (s : _root_.Go.ChangeSpec) : _root_.Go.OpenSpec := { _root_.Go.OpenSpec.ofChange s with cond := some uptoSmall }

/-- 'laws.FnExactComplementDesign', WHERE WHAT IT READS IS OF BULK AT MOST 1048576: true; the input reads as it did. -/
def fnExactComplementDesignUptoRow : OpenClaim := { program := "ytdneldecedbepaa", sum := "f8c7d21c3bfd4a2b56e3fd8e4b22252c714662d72ed975fb0a6e18133a6b79a1", func := "loop.example/g00920/laws.FnExactComplementDesign", spec := "fnExactComplementDesign", unfollowed := true, recurses := true, apart := false, narrowed := true }
def FnExactComplementDesignUptoSaid : Prop := fnExactComplementDesignUptoRow.holds Try.pinned (OpenSpec.upto fnExactComplementDesignSpec)

/-- 'laws.FnExactDerivedDesign', WHERE WHAT IT READS IS OF BULK AT MOST 1048576: true; the input reads as it did. -/
def fnExactDerivedDesignUptoRow : OpenClaim := { program := "ytdneldecedbepaa", sum := "f8c7d21c3bfd4a2b56e3fd8e4b22252c714662d72ed975fb0a6e18133a6b79a1", func := "loop.example/g00920/laws.FnExactDerivedDesign", spec := "fnExactDerivedDesign", unfollowed := true, recurses := true, apart := false, narrowed := true }
def FnExactDerivedDesignUptoSaid : Prop := fnExactDerivedDesignUptoRow.holds Try.pinned (OpenSpec.upto fnExactDerivedDesignSpec)

/-- 'laws.FnExactResidualDesign', WHERE WHAT IT READS IS OF BULK AT MOST 1048576: true; the input reads as it did. -/
def fnExactResidualDesignUptoRow : OpenClaim := { program := "ytdneldecedbepaa", sum := "f8c7d21c3bfd4a2b56e3fd8e4b22252c714662d72ed975fb0a6e18133a6b79a1", func := "loop.example/g00920/laws.FnExactResidualDesign", spec := "fnExactResidualDesign", unfollowed := true, recurses := true, apart := false, narrowed := true }
def FnExactResidualDesignUptoSaid : Prop := fnExactResidualDesignUptoRow.holds Try.pinned (OpenSpec.upto fnExactResidualDesignSpec)

/-- 'laws.FnExactDualDesign', WHERE WHAT IT READS IS OF BULK AT MOST 1048576: true; the input reads as it did. -/
def fnExactDualDesignUptoRow : OpenClaim := { program := "ytdneldecedbepaa", sum := "f8c7d21c3bfd4a2b56e3fd8e4b22252c714662d72ed975fb0a6e18133a6b79a1", func := "loop.example/g00920/laws.FnExactDualDesign", spec := "fnExactDualDesign", unfollowed := true, recurses := true, apart := false, narrowed := true }
def FnExactDualDesignUptoSaid : Prop := fnExactDualDesignUptoRow.holds Try.pinned (OpenSpec.upto fnExactDualDesignSpec)

/-- 'laws.FnExactSumDesigns', WHERE WHAT IT READS IS OF BULK AT MOST 1048576: true; the input reads as it did. -/
def fnExactSumDesignsUptoRow : OpenClaim := { program := "ytdneldecedbepaa", sum := "f8c7d21c3bfd4a2b56e3fd8e4b22252c714662d72ed975fb0a6e18133a6b79a1", func := "loop.example/g00920/laws.FnExactSumDesigns", spec := "fnExactSumDesigns", unfollowed := true, recurses := true, apart := false, narrowed := true }
def FnExactSumDesignsUptoSaid : Prop := fnExactSumDesignsUptoRow.holds Try.pinned (OpenSpec.upto fnExactSumDesignsSpec)

/-- 'laws.FnExactMeetingsOf', WHERE WHAT IT READS IS OF BULK AT MOST 1048576: true; the input reads as it did. -/
def fnExactMeetingsOfUptoRow : OpenClaim := { program := "ytdneldecedbepaa", sum := "f8c7d21c3bfd4a2b56e3fd8e4b22252c714662d72ed975fb0a6e18133a6b79a1", func := "loop.example/g00920/laws.FnExactMeetingsOf", spec := "fnExactMeetingsOf", unfollowed := true, recurses := true, apart := false, narrowed := true }
def FnExactMeetingsOfUptoSaid : Prop := fnExactMeetingsOfUptoRow.holds Try.pinned (OpenSpec.upto fnExactMeetingsOfSpec)

/-- 'laws.FnExactDesignOfHadamard', WHERE WHAT IT READS IS OF BULK AT MOST 1048576: true; the input reads as it did. -/
def fnExactDesignOfHadamardUptoRow : OpenClaim := { program := "ytdneldecedbepaa", sum := "f8c7d21c3bfd4a2b56e3fd8e4b22252c714662d72ed975fb0a6e18133a6b79a1", func := "loop.example/g00920/laws.FnExactDesignOfHadamard", spec := "fnExactDesignOfHadamard", unfollowed := true, recurses := true, apart := false, narrowed := true }
def FnExactDesignOfHadamardUptoSaid : Prop := fnExactDesignOfHadamardUptoRow.holds Try.pinned (OpenSpec.upto fnExactDesignOfHadamardSpec)

/-- 'laws.FnExactRemoveLine', WHERE WHAT IT READS IS OF BULK AT MOST 1048576: true; the input reads as it did. -/
def fnExactRemoveLineUptoRow : OpenClaim := { program := "ytdneldecedbepaa", sum := "f8c7d21c3bfd4a2b56e3fd8e4b22252c714662d72ed975fb0a6e18133a6b79a1", func := "loop.example/g00920/laws.FnExactRemoveLine", spec := "fnExactRemoveLine", unfollowed := true, recurses := true, apart := false, narrowed := true }
def FnExactRemoveLineUptoSaid : Prop := fnExactRemoveLineUptoRow.holds Try.pinned (OpenSpec.upto fnExactRemoveLineSpec)

/-- 'laws.FnExactRelabelDesign', WHERE WHAT IT READS IS OF BULK AT MOST 1048576: true; the input reads as it did. -/
def fnExactRelabelDesignUptoRow : OpenClaim := { program := "ytdneldecedbepaa", sum := "f8c7d21c3bfd4a2b56e3fd8e4b22252c714662d72ed975fb0a6e18133a6b79a1", func := "loop.example/g00920/laws.FnExactRelabelDesign", spec := "fnExactRelabelDesign", unfollowed := true, recurses := true, apart := false, narrowed := true }
def FnExactRelabelDesignUptoSaid : Prop := fnExactRelabelDesignUptoRow.holds Try.pinned (OpenSpec.upto fnExactRelabelDesignSpec)

end Rows
end Go.Proofs.Ytdneldecedbepaa
