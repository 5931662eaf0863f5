/-
  Small functions of the program and of the reference: within, l00In. Conditions: none.
-/
import Derived.Test.YthgbfgdnljgicabLib3
namespace Go.Proofs.Ythgbfgdnljgicab
open Go.RowKit
set_option linter.unusedVariables false
set_option linter.unusedSimpArgs false

/-- low ≤ n ≤ high. -/
def inB (n lo hi : Int) : Bool := decide (lo ≤ n ∧ n ≤ hi)
theorem inB_true {n lo hi : Int} : inB n lo hi = true ↔ lo ≤ n ∧ n ≤ hi := by simp [inB]
theorem inB_false {n lo hi : Int} : inB n lo hi = false ↔ ¬ (lo ≤ n ∧ n ≤ hi) := by simp [inB]

theorem within_c (n lo hi : Int) (w : World) : Calls Try.prog 38 #[.int .i64 n, .int .i64 lo, .int .i64 hi] w fun e w' => e = .returned (.bool (inB n lo hi)) ∧ w = w' := by
  have e : inB n lo hi = inB n lo hi := rfl
  by_cases h1 : lo ≤ n <;> by_cases h2 : n ≤ hi
  · have hb : inB n lo hi = true := inB_true.2 ⟨h1, h2⟩
    rw [hb]
    clear hb e
    go_enter Try.func38, Try.ntmps38
    go_wp2
    go_ret
    exact ⟨rfl, rfl⟩
  all_goals
    have hb : inB n lo hi = false := inB_false.2 (by omega)
    rw [hb]
    clear hb e
    go_enter Try.func38, Try.ntmps38
    go_wp2
    go_ret
    exact ⟨rfl, rfl⟩

theorem in_c (n lo hi : Int) (w : World) : Calls Try.prog 26 #[.int .i64 n, .int .i64 lo, .int .i64 hi] w fun e w' => e = .returned (.bool (inB n lo hi)) ∧ w = w' := by
  by_cases h1 : lo ≤ n <;> by_cases h2 : n ≤ hi
  · have hb : inB n lo hi = true := inB_true.2 ⟨h1, h2⟩
    rw [hb]
    clear hb
    go_enter Try.func26, Try.ntmps26
    go_wp2
    go_ret
    exact ⟨rfl, rfl⟩
  all_goals
    have hb : inB n lo hi = false := inB_false.2 (by omega)
    rw [hb]
    clear hb
    go_enter Try.func26, Try.ntmps26
    go_wp2
    go_ret
    exact ⟨rfl, rfl⟩
end Go.Proofs.Ythgbfgdnljgicab
