/-
  A design that came in, opened: what it reads as. Conditions: none.
-/
import Derived.Test.YthgbfgdnljgicaaLawFrame
import Derived.Lib.SmallJoins
namespace Go.Proofs.Ythgbfgdnljgicaa
open Go.ChangeShapes Go.WideShapes Go.ChangeAt Go.RowKit Go.Deep
set_option linter.unusedVariables false
set_option linter.unusedSimpArgs false

section
variable {H : Type} {enc : TypeId × Value → H} {W : World}

end
end Go.Proofs.Ythgbfgdnljgicaa
