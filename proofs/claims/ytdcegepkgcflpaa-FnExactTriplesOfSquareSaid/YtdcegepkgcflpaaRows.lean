/-
  No cell of these rows narrows 'for every input' (looked for: loops, veiled, ifaces, maps, wideKeys, modest, calm, conditions, laid).
  DERIVED. THE GIVEN ROWS OF THIS SEAT. 5 by the template 'for every input the law returns true; each argument reads behind the call as it read before'; 0 by the template 'total and deterministic' (their statements: YtdcegepkgcflpaaTotals.lean).
  GIVEN WITH THE SEED: the statements are not yours to turn. If you find one false, say at which input.
  Laid BY PROGRAM, IN A SANDBOX (cutbox-rows.mjs): the forced cells as the released guide's own fill.sh prints them over the translation 00d6deb702f62a26… (all of the seat's roots in one cut). By AI agents, Wed Nov 11 2026. No macro, syntax, notation, axiom, sorry.
-/
import Derived.Test.YtdcegepkgcflpaaChecked
import GoSem.Claim
import GoSem.ClaimJoined
import GoSem.ClaimMapViews
import Derived.JoinedTies
import Derived.KernelRfl
namespace Go.Proofs.Ytdcegepkgcflpaa
/- THE CELL 'sum', in the pinned program and in every row, IS THE sha256 OF THE DUMP (.gsa) THAT YtdcegepkgcflpaaProg.lean LOADS. Nothing in Lean hashes anything: it is a label: what it is worth is what the hold of that sum in a sandbox is worth. -/
noncomputable def Try.pinned : Pinned := { name := "ytdcegepkgcflpaa", sum := "00d6deb702f62a26cbe1900cf131cdfcd42b8c1b9ef3a58ec4cbb5df3c225c29", checked := Try.checked }
namespace Rows
def none {H : Type} : Left H := { results := [], args := [] }

/-- 'laws.FnExactDevelopFamily': WHATEVER THE INPUT: true; the input reads as it did. -/
def fnExactDevelopFamilySpec : ChangeSpec := { name := "fnExactDevelopFamily", fn := fun _ => fun
  | [d1, d2] => { results := [.lit (.bool true)], args := [d1, d2] }
  | _ => none }
def fnExactDevelopFamilyRow : OpenClaim := { program := "ytdcegepkgcflpaa", sum := "00d6deb702f62a26cbe1900cf131cdfcd42b8c1b9ef3a58ec4cbb5df3c225c29", func := "loop.example/g00920/laws.FnExactDevelopFamily", spec := "fnExactDevelopFamily", unfollowed := true, recurses := true, apart := false }
def FnExactDevelopFamilySaid : Prop := fnExactDevelopFamilyRow.holds Try.pinned (OpenSpec.ofChange fnExactDevelopFamilySpec)

/-- ITS FALSE NEIGHBOUR: 'it returns false'. Refute it at one input. -/
def fnExactDevelopFamilyWrong : ChangeSpec := { name := "fnExactDevelopFamily", fn := fun _ => fun
  | [d1, d2] => { results := [.lit (.bool false)], args := [d1, d2] }
  | _ => none }
def FnExactDevelopFamilyWrongFalsely : Prop := fnExactDevelopFamilyRow.holds Try.pinned (OpenSpec.ofChange fnExactDevelopFamilyWrong)

/-- 'laws.FnExactIsCyclicDesign': WHATEVER THE INPUT: true; the input reads as it did. -/
def fnExactIsCyclicDesignSpec : ChangeSpec := { name := "fnExactIsCyclicDesign", fn := fun _ => fun
  | [d] => { results := [.lit (.bool true)], args := [d] }
  | _ => none }
def fnExactIsCyclicDesignRow : OpenClaim := { program := "ytdcegepkgcflpaa", sum := "00d6deb702f62a26cbe1900cf131cdfcd42b8c1b9ef3a58ec4cbb5df3c225c29", func := "loop.example/g00920/laws.FnExactIsCyclicDesign", spec := "fnExactIsCyclicDesign", unfollowed := true, recurses := true, apart := false }
def FnExactIsCyclicDesignSaid : Prop := fnExactIsCyclicDesignRow.holds Try.pinned (OpenSpec.ofChange fnExactIsCyclicDesignSpec)

/-- ITS FALSE NEIGHBOUR: 'it returns false'. Refute it at one input. -/
def fnExactIsCyclicDesignWrong : ChangeSpec := { name := "fnExactIsCyclicDesign", fn := fun _ => fun
  | [d] => { results := [.lit (.bool false)], args := [d] }
  | _ => none }
def FnExactIsCyclicDesignWrongFalsely : Prop := fnExactIsCyclicDesignRow.holds Try.pinned (OpenSpec.ofChange fnExactIsCyclicDesignWrong)

/-- 'laws.FnExactTriplesOfSquare': WHATEVER THE INPUT: true; the input reads as it did. -/
def fnExactTriplesOfSquareSpec : ChangeSpec := { name := "fnExactTriplesOfSquare", fn := fun _ => fun
  | [d] => { results := [.lit (.bool true)], args := [d] }
  | _ => none }
def fnExactTriplesOfSquareRow : OpenClaim := { program := "ytdcegepkgcflpaa", sum := "00d6deb702f62a26cbe1900cf131cdfcd42b8c1b9ef3a58ec4cbb5df3c225c29", func := "loop.example/g00920/laws.FnExactTriplesOfSquare", spec := "fnExactTriplesOfSquare", unfollowed := true, recurses := true, apart := false }
def FnExactTriplesOfSquareSaid : Prop := fnExactTriplesOfSquareRow.holds Try.pinned (OpenSpec.ofChange fnExactTriplesOfSquareSpec)

/-- ITS FALSE NEIGHBOUR: 'it returns false'. Refute it at one input. -/
def fnExactTriplesOfSquareWrong : ChangeSpec := { name := "fnExactTriplesOfSquare", fn := fun _ => fun
  | [d] => { results := [.lit (.bool false)], args := [d] }
  | _ => none }
def FnExactTriplesOfSquareWrongFalsely : Prop := fnExactTriplesOfSquareRow.holds Try.pinned (OpenSpec.ofChange fnExactTriplesOfSquareWrong)

/-- 'laws.FnExactCountBreaks': WHATEVER THE INPUT: true; the input reads as it did. -/
def fnExactCountBreaksSpec : ChangeSpec := { name := "fnExactCountBreaks", fn := fun _ => fun
  | [d1, d2, d3] => { results := [.lit (.bool true)], args := [d1, d2, d3] }
  | _ => none }
def fnExactCountBreaksRow : OpenClaim := { program := "ytdcegepkgcflpaa", sum := "00d6deb702f62a26cbe1900cf131cdfcd42b8c1b9ef3a58ec4cbb5df3c225c29", func := "loop.example/g00920/laws.FnExactCountBreaks", spec := "fnExactCountBreaks", unfollowed := true, recurses := true, apart := false }
def FnExactCountBreaksSaid : Prop := fnExactCountBreaksRow.holds Try.pinned (OpenSpec.ofChange fnExactCountBreaksSpec)

/-- ITS FALSE NEIGHBOUR: 'it returns false'. Refute it at one input. -/
def fnExactCountBreaksWrong : ChangeSpec := { name := "fnExactCountBreaks", fn := fun _ => fun
  | [d1, d2, d3] => { results := [.lit (.bool false)], args := [d1, d2, d3] }
  | _ => none }
def FnExactCountBreaksWrongFalsely : Prop := fnExactCountBreaksRow.holds Try.pinned (OpenSpec.ofChange fnExactCountBreaksWrong)

/-- 'laws.FnExactParallelClasses': WHATEVER THE INPUT: true; the input reads as it did. -/
def fnExactParallelClassesSpec : ChangeSpec := { name := "fnExactParallelClasses", fn := fun _ => fun
  | [d] => { results := [.lit (.bool true)], args := [d] }
  | _ => none }
def fnExactParallelClassesRow : OpenClaim := { program := "ytdcegepkgcflpaa", sum := "00d6deb702f62a26cbe1900cf131cdfcd42b8c1b9ef3a58ec4cbb5df3c225c29", func := "loop.example/g00920/laws.FnExactParallelClasses", spec := "fnExactParallelClasses", unfollowed := true, recurses := true, apart := false }
def FnExactParallelClassesSaid : Prop := fnExactParallelClassesRow.holds Try.pinned (OpenSpec.ofChange fnExactParallelClassesSpec)

/-- ITS FALSE NEIGHBOUR: 'it returns false'. Refute it at one input. -/
def fnExactParallelClassesWrong : ChangeSpec := { name := "fnExactParallelClasses", fn := fun _ => fun
  | [d] => { results := [.lit (.bool false)], args := [d] }
  | _ => none }
def FnExactParallelClassesWrongFalsely : Prop := fnExactParallelClassesRow.holds Try.pinned (OpenSpec.ofChange fnExactParallelClassesWrong)

/- THE SECOND FORM. 'bulk': how many values and letters a reading holds, each counted each time it is reached (what is shared counts as often as it is met; a slice's spare places count too). A statement '..UptoSaid' is the law's where the arguments, and the package variables that the reading takes, are together of bulk at most 1048576: NARROWER than '..Said'. Prove '..Said' where nothing that the law and all that it calls make is longer than what came in: it says more and counts as full. Else prove '..UptoSaid'. A law counts once. -/
mutual
def uptoBulk {H : Type} : DataW H → Nat
  | .lit (.string bytes) => bytes.length + 1
  | .lit _ => 1
  | .nil => 1
  | .ptr d => uptoBulk d + 1
  | .slice elems spare => uptoBulkAll elems + uptoBulkAll spare + 1
  | .agg parts => uptoBulkAll parts + 1
  | .iface _ d => uptoBulk d + 1
  | .map entries => uptoBulkEntries entries + 1
  | .held _ => 1
def uptoBulkAll {H : Type} : List (DataW H) → Nat
  | [] => 0
  | d :: r => uptoBulk d + uptoBulkAll r
def uptoBulkEntries {H : Type} : List (Lit × DataW H) → Nat
  | [] => 0
  | x :: r => uptoBulkEntry x + uptoBulkEntries r
def uptoBulkEntry {H : Type} : Lit × DataW H → Nat
  | (.string bytes, d) => bytes.length + uptoBulk d + 1
  | (_, d) => uptoBulk d + 1
 end
def uptoSmall : (H : Type) → List (DataW H) → Bool := fun _ ds => decide (uptoBulkAll ds ≤ 1048576)
def OpenSpec.upto (s : _root_.Go.ChangeSpec) : _root_.Go.OpenSpec := { _root_.Go.OpenSpec.ofChange s with cond := some uptoSmall }

/-- 'laws.FnExactDevelopFamily', WHERE WHAT IT READS IS OF BULK AT MOST 1048576: true; the input reads as it did. -/
def fnExactDevelopFamilyUptoRow : OpenClaim := { program := "ytdcegepkgcflpaa", sum := "00d6deb702f62a26cbe1900cf131cdfcd42b8c1b9ef3a58ec4cbb5df3c225c29", func := "loop.example/g00920/laws.FnExactDevelopFamily", spec := "fnExactDevelopFamily", unfollowed := true, recurses := true, apart := false, narrowed := true }
def FnExactDevelopFamilyUptoSaid : Prop := fnExactDevelopFamilyUptoRow.holds Try.pinned (OpenSpec.upto fnExactDevelopFamilySpec)

/-- 'laws.FnExactIsCyclicDesign', WHERE WHAT IT READS IS OF BULK AT MOST 1048576: true; the input reads as it did. -/
def fnExactIsCyclicDesignUptoRow : OpenClaim := { program := "ytdcegepkgcflpaa", sum := "00d6deb702f62a26cbe1900cf131cdfcd42b8c1b9ef3a58ec4cbb5df3c225c29", func := "loop.example/g00920/laws.FnExactIsCyclicDesign", spec := "fnExactIsCyclicDesign", unfollowed := true, recurses := true, apart := false, narrowed := true }
def FnExactIsCyclicDesignUptoSaid : Prop := fnExactIsCyclicDesignUptoRow.holds Try.pinned (OpenSpec.upto fnExactIsCyclicDesignSpec)

/-- 'laws.FnExactTriplesOfSquare', WHERE WHAT IT READS IS OF BULK AT MOST 1048576: true; the input reads as it did. -/
def fnExactTriplesOfSquareUptoRow : OpenClaim := { program := "ytdcegepkgcflpaa", sum := "00d6deb702f62a26cbe1900cf131cdfcd42b8c1b9ef3a58ec4cbb5df3c225c29", func := "loop.example/g00920/laws.FnExactTriplesOfSquare", spec := "fnExactTriplesOfSquare", unfollowed := true, recurses := true, apart := false, narrowed := true }
def FnExactTriplesOfSquareUptoSaid : Prop := fnExactTriplesOfSquareUptoRow.holds Try.pinned (OpenSpec.upto fnExactTriplesOfSquareSpec)

/-- 'laws.FnExactCountBreaks', WHERE WHAT IT READS IS OF BULK AT MOST 1048576: true; the input reads as it did. -/
def fnExactCountBreaksUptoRow : OpenClaim := { program := "ytdcegepkgcflpaa", sum := "00d6deb702f62a26cbe1900cf131cdfcd42b8c1b9ef3a58ec4cbb5df3c225c29", func := "loop.example/g00920/laws.FnExactCountBreaks", spec := "fnExactCountBreaks", unfollowed := true, recurses := true, apart := false, narrowed := true }
def FnExactCountBreaksUptoSaid : Prop := fnExactCountBreaksUptoRow.holds Try.pinned (OpenSpec.upto fnExactCountBreaksSpec)

/-- 'laws.FnExactParallelClasses', WHERE WHAT IT READS IS OF BULK AT MOST 1048576: true; the input reads as it did. -/
def fnExactParallelClassesUptoRow : OpenClaim := { program := "ytdcegepkgcflpaa", sum := "00d6deb702f62a26cbe1900cf131cdfcd42b8c1b9ef3a58ec4cbb5df3c225c29", func := "loop.example/g00920/laws.FnExactParallelClasses", spec := "fnExactParallelClasses", unfollowed := true, recurses := true, apart := false, narrowed := true }
def FnExactParallelClassesUptoSaid : Prop := fnExactParallelClassesUptoRow.holds Try.pinned (OpenSpec.upto fnExactParallelClassesSpec)

end Rows
end Go.Proofs.Ytdcegepkgcflpaa
