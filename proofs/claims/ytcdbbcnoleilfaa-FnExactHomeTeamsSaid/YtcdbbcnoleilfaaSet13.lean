/-
  Sets of residues: translate, multiply, gcd of the program; l13Move, l13Ask, l02Gcd of the reference; TranslateSet and MultiplySet of both. Conditions: those of each theorem.
-/
import Derived.Test.YtcdbbcnoleilfaaSort
namespace Go.Proofs.Ytcdbbcnoleilfaa
open Go.RowKit
set_option linter.unusedVariables false
set_option linter.unusedSimpArgs false

theorem tmod_nat (x y : Nat) : Int.tmod (x : Int) (y : Int) = ((x % y : Nat) : Int) := by
  rw [Int.tmod_eq_emod_of_nonneg (by omega)]
  rfl

/-! ### The sets moved -/
def mvF (N : Nat) (xs : List Int) (t b : Int) (k : Nat) : Int := (nth xs k * t + b).tmod (N : Int)
def mvL (N : Nat) (xs : List Int) (t b : Int) : List Int := putsTo (mvF N xs t b) xs.length

theorem set13_facts {N : Nat} {xs : List Int} (h : Set13 (N : Int) xs) : (1 ≤ N ∧ N ≤ 32) ∧ (∀ k, k < xs.length → 0 ≤ nth xs k ∧ nth xs k ≤ (N : Int) - 1) ∧ (∀ i j, i < j → j < xs.length → nth xs i < nth xs j) ∧ xs.length ≤ 32 := by
  have h1 := rise_len h.2 (by have := h.1; omega)
  refine ⟨⟨by have := h.1; omega, by have := h.1; omega⟩, fun k hk => (h.2 k hk).1, fun i j hij hj => h.2.lt j hj hij, by have := h.1; omega⟩

end Go.Proofs.Ytcdbbcnoleilfaa
