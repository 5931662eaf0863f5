/-
  AffinePlane of the program and of the reference at every argument. Conditions: none.
-/
import Derived.Test.YtbbaeopobnpnmaaApI
import Derived.Test.YtbbaeopobnpnmaaApS
namespace Go.Proofs.Ytbbaeopobnpnmaa
open Go.RowKit
set_option linter.unusedVariables false
set_option linter.unusedSimpArgs false

theorem ap_split (q : Int) : (apOk q = false ∧ apP q = 0 ∧ apX q = [] ∧ apC q = 2) ∨ ∃ n : Nat, q = (n : Int) ∧ apOk (n : Int) = true ∧ apP q = (n : Int) * (n : Int) ∧ apX q = sortLL (apI n (apG_ (n : Int)) n) ∧ apC q = 0 := by
  rcases h : apOk q with _ | _
  · exact .inl ⟨rfl, if_neg (by rw [h]; simp), if_neg (by rw [h]; simp), if_neg (by rw [h]; simp)⟩
  · obtain ⟨_, _, h2, _⟩ := apOk_nat h
    obtain ⟨n, rfl⟩ : ∃ n : Nat, q = (n : Int) := ⟨q.toNat, by omega⟩
    exact .inr ⟨n, rfl, h, if_pos h, if_pos h, if_pos h⟩
theorem implAffinePlane_c (w : World) (q : Int) (hq : -9223372036854775808 ≤ q ∧ q ≤ 9223372036854775807) : Calls Try.prog 12 #[.int .i64 q] w (PostDC w (apP q) (apX q) (apC q)) := by
  rcases ap_split q with ⟨h, e1, e2, e3⟩ | ⟨n, rfl, h, e1, e2, e3⟩
  · rw [e1, e2, e3]; exact implAffinePlane_no w q h
  · rw [e1, e2, e3]; exact implAffinePlane_yes w n h
theorem specAffinePlane_c (w : World) (q : Int) (hq : -9223372036854775808 ≤ q ∧ q ≤ 9223372036854775807) : Calls Try.prog 11 #[.int .i64 q] w (PostDC w (apP q) (apX q) (apC q)) := by
  rcases ap_split q with ⟨h, e1, e2, e3⟩ | ⟨n, rfl, h, e1, e2, e3⟩
  · rw [e1, e2, e3]; exact specAffinePlane_no w q h
  · rw [e1, e2, e3]; exact specAffinePlane_yes w n h
end Go.Proofs.Ytbbaeopobnpnmaa
