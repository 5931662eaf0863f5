/-
  The library's sorting functions at this program: where their code lies (written by the kit's tool lay-plain). Conditions: none.
-/
import Derived.Shelf.SlicesG.CompactI
import Derived.Shelf.SlGeneric
import Derived.Test.YtbbaeopobnpnmaaProg
namespace Go.Proofs.Ytbbaeopobnpnmaa
open Go.Shelf
set_option linter.unusedVariables false
set_option linter.unusedSimpArgs false
def compactI_ren : Go.Shelf.Ren := ⟨fun | 43 => 46 | n => n, fun | 22 => 37 | 23 => 2 | 3 => 3 | 4 => 4 | 0 => 0 | n => n, fun | n => n⟩
theorem compactI : Go.Proofs.SlLaysN.n43 Try.prog compactI_ren := {
  mixed := by kernel_rfl
  f43 := ⟨Try.f46.name, by decide, Try.func46.trans (congrArg some (by kernel_rfl))⟩
  t0 := Try.underlying0
  a0 := Try.isAgg0
  z0 := Try.sizeOf0
  v0 := Try.zeroValue0
  t3 := Try.underlying3
  a3 := Try.isAgg3
  z3 := Try.sizeOf3
  v3 := Try.zeroValue3
  t4 := Try.underlying4
  a4 := Try.isAgg4
  z4 := Try.sizeOf4
  v4 := Try.zeroValue4
  t22 := Try.underlying37
  a22 := Try.isAgg37
  z22 := Try.sizeOf37
  v22 := Try.zeroValue37
  t23 := Try.underlying2
  a23 := Try.isAgg2
  z23 := Try.sizeOf2
  v23 := Try.zeroValue2
  i23 := by kernel_rfl }
end Go.Proofs.Ytbbaeopobnpnmaa
