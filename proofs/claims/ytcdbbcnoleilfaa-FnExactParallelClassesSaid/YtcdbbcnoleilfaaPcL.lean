/-
  Both sides of ParallelClasses together. Conditions: none.
-/
import Derived.Test.YtcdbbcnoleilfaaPcS
import Derived.Test.YtcdbbcnoleilfaaPcI
namespace Go.Proofs.Ytcdbbcnoleilfaa
set_option linter.unusedVariables false
set_option linter.unusedSimpArgs false
end Go.Proofs.Ytcdbbcnoleilfaa
