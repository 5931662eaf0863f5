/-
  Sorted lists of lists: the same of lists with the same rows; small ones. Conditions: those of each theorem.
-/
import Derived.Test.YtmmkmkbpgcbehaaGreatSortM
namespace Go.Proofs.YtmmkmkbpgcbehaaGreat
open Go.RowKit
set_option linter.unusedVariables false
set_option linter.unusedSimpArgs false

theorem sortLL_permA {xss yss : List (List Int)} (h : xss.Perm yss) : sortLL xss = sortLL yss :=
  sortLL_unique ((List.mergeSort_perm _ _).trans h) (sortLL_pw xss)
theorem totA_le {xss : List (List Int)} (h : ∀ r ∈ xss, r.length ≤ 1000) : tot xss ≤ xss.length * 1000 := by
  induction xss with
  | nil => simp [tot]
  | cons q xss ih =>
    have h1 := ih fun r hr => h r (List.mem_cons_of_mem _ hr)
    have h2 := h q (List.mem_cons_self ..)
    rw [List.length_cons, Nat.succ_mul]
    simp [tot] at *
    omega
theorem sortLL_small {xss : List (List Int)} (hl : xss.length ≤ 1000) (h : ∀ r ∈ xss, r.length ≤ 1000) : (sortLL xss).length ≤ 1048576 ∧ tot (sortLL xss) ≤ 1048576 := by
  have h1 := totA_le (xss := sortLL xss) fun r hr => h r ((List.mergeSort_perm xss _).mem_iff.1 hr)
  rw [sortLL_len] at h1 ⊢
  have := Nat.mul_le_mul_right 1000 hl
  omega
end Go.Proofs.YtmmkmkbpgcbehaaGreat
