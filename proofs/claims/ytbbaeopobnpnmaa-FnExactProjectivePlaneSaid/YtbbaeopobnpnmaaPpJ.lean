/-
  ProjectivePlane of the program and of the reference at every argument. Conditions: none.
-/
import Derived.Test.YtbbaeopobnpnmaaPpI
import Derived.Test.YtbbaeopobnpnmaaPpS
namespace Go.Proofs.Ytbbaeopobnpnmaa
open Go.RowKit
set_option linter.unusedVariables false
set_option linter.unusedSimpArgs false

theorem implProjectivePlane_c (w : World) (q : Int) (hq : -9223372036854775808 ≤ q ∧ q ≤ 9223372036854775807) : Calls Try.prog 17 #[.int .i64 q] w (PostDC w (pjP q) (pjX q) (pjC q)) := by
  rcases pj_split q with ⟨h, e1, e2, e3⟩ | ⟨n, rfl, h, e1, e2, e3⟩
  · rw [e1, e2, e3]; exact implProjectivePlane_no w q h
  · rw [e1, e2, e3]; exact implProjectivePlane_yes w n h
theorem specProjectivePlane_c (w : World) (q : Int) (hq : -9223372036854775808 ≤ q ∧ q ≤ 9223372036854775807) : Calls Try.prog 16 #[.int .i64 q] w (PostDC w (pjP q) (pjX q) (pjC q)) := by
  rcases pj_split q with ⟨h, e1, e2, e3⟩ | ⟨n, rfl, h, e1, e2, e3⟩
  · rw [e1, e2, e3]; exact specProjectivePlane_no w q h
  · rw [e1, e2, e3]; exact specProjectivePlane_yes w n h
end Go.Proofs.Ytbbaeopobnpnmaa
