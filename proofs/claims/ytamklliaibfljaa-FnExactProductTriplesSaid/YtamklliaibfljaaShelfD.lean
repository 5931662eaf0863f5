/-
  slices.Delete at this program: where its code lies (after the text that the kit's tool lay-plain wrote for slices.Compact). Conditions: none.
-/
import Derived.Shelf.SlicesG.Delete
import Derived.Shelf.SlGeneric
import Derived.Test.YtamklliaibfljaaProg
namespace Go.Proofs.Ytamklliaibfljaa
open Go.Shelf
set_option linter.unusedVariables false
set_option linter.unusedSimpArgs false
def deleteI_ren : Go.Shelf.Ren := ⟨fun | 45 => 80 | n => n, fun | 22 => 45 | 23 => 2 | 3 => 3 | 4 => 4 | 0 => 0 | n => n, fun | n => n⟩
theorem deleteI : Go.Proofs.SlLaysN.n45 Try.prog deleteI_ren := {
  mixed := by kernel_rfl
  f45 := ⟨Try.f80.name, by decide, Try.func80.trans (congrArg some (by kernel_rfl))⟩
  t0 := Try.underlying0
  a0 := Try.isAgg0
  z0 := Try.sizeOf0
  v0 := Try.zeroValue0
  t3 := Try.underlying3
  a3 := Try.isAgg3
  z3 := Try.sizeOf3
  v3 := Try.zeroValue3
  t4 := Try.underlying4
  a4 := Try.isAgg4
  z4 := Try.sizeOf4
  v4 := Try.zeroValue4
  t22 := Try.underlying45
  a22 := Try.isAgg45
  z22 := Try.sizeOf45
  v22 := Try.zeroValue45
  t23 := Try.underlying2
  a23 := Try.isAgg2
  z23 := Try.sizeOf2
  v23 := Try.zeroValue2
  i23 := by kernel_rfl }
end Go.Proofs.Ytamklliaibfljaa
