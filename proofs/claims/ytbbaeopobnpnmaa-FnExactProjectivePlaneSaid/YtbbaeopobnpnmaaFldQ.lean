/-
  Prime powers up to 64 as a plain law: prime and exponent by the factors and by trial. No program in sight. Conditions: those of each theorem.
-/
import Derived.Test.YtbbaeopobnpnmaaFldP
import Derived.Test.YtbbaeopobnpnmaaNum
namespace Go.Proofs.Ytbbaeopobnpnmaa
open Go.RowKit
set_option linter.unusedVariables false
set_option linter.unusedSimpArgs false

/-- Prime and exponent out of the factors; zeros if they differ or if there are none. -/
def ppL (fs : List Int) : Int × Int := if fs.length ≠ 0 ∧ ∀ k, k < fs.length → nth fs k = nth fs 0 then (nth fs 0, (fs.length : Int)) else (0, 0)
def ppF (q : Int) : Int × Int := ppL (factorsZ q)
/-- The least divisor from 2 on. -/
def splD (q : Nat) : Nat := ((List.range (q + 1)).find? fun p => decide (2 ≤ p) && decide (q % p = 0)).getD q
/-- Whether q is a power of p, by division. -/
def splR (p : Nat) : Nat → Nat → Nat → Int × Int
  | 0, _, k => ((p : Int), (k : Int))
  | f + 1, n, k => if n ≤ 1 then ((p : Int), (k : Int)) else if n % p ≠ 0 then (0, 0) else splR p f (n / p) (k + 1)
def splF (q : Nat) : Int × Int := splR (splD q) q q 0
/-- What a prime power up to 64 is. -/
def ppOk (q : Nat) (p k : Int) : Prop := 2 ≤ p ∧ p ≤ 64 ∧ 1 ≤ k ∧ k ≤ 6 ∧ p.toNat ^ k.toNat = q ∧ (k = 1 ∨ p = 2 ∨ p = 3 ∨ p = 5 ∨ p = 7) ∧ (factorsZ p).length = 1
instance (q : Nat) (p k : Int) : Decidable (ppOk q p k) := by unfold ppOk; infer_instance
theorem pp_all : ∀ q, q < 65 → 2 ≤ q → splF q = ppF (q : Int) ∧ (ppF (q : Int) = (0, 0) ∨ ppOk q (ppF (q : Int)).1 (ppF (q : Int)).2) := by decide +kernel
theorem spl_all : ∀ q, q < 65 → 2 ≤ q → 2 ≤ splD q ∧ splD q ≤ q ∧ q % splD q = 0 ∧ ∀ p, p < splD q → 2 ≤ p → q % p ≠ 0 := by decide +kernel
theorem pp_low {q : Int} (h : ¬ 2 ≤ q) : ppF q = (0, 0) := by
  by_cases h1 : 1 ≤ q
  · obtain rfl : q = 1 := by omega
    decide +kernel
  · unfold ppF factorsZ
    rw [if_neg (by omega)]
    simp [ppL]
/-- The field of a size: whether there is one, its prime, its degree, its polynomial. -/
def fdB (q : Int) : Bool := decide (2 ≤ q ∧ q ≤ 64 ∧ ppF q ≠ (0, 0))
def fdP (q : Int) : Nat := (ppF q).1.toNat
def fdK (q : Int) : Nat := (ppF q).2.toNat
def fdY (q : Int) : List Int := poN (fdP q) (fdK q) (leN (fdP q) (fdK q))
theorem fd_spec {q : Int} (h : fdB q = true) : FldOk (fdP q) (fdK q) ∧ ppF q = ((fdP q : Int), (fdK q : Int)) ∧ ((fdP q ^ fdK q : Nat) : Int) = q ∧ irrHas (fdP q) (fdK q) = true ∧ (factorsZ (fdP q : Int)).length = 1 ∧ 2 ≤ q ∧ q ≤ 64 := by
  have h := of_decide_eq_true h
  obtain ⟨n, rfl⟩ : ∃ n : Nat, q = (n : Int) := ⟨q.toNat, by omega⟩
  have h1 := (pp_all n (by omega) (by omega)).2
  rcases h1 with h1 | ⟨a1, a2, a3, a4, a5, a6, a7⟩
  · exact absurd h1 h.2.2
  · have hk : ((fdK (n : Int) : Nat) : Int) = (ppF (n : Int)).2 := by unfold fdK; omega
    have hp : ((fdP (n : Int) : Nat) : Int) = (ppF (n : Int)).1 := by unfold fdP; omega
    have h5 : fdP (n : Int) ^ fdK (n : Int) = n := a5
    have hF : FldOk (fdP (n : Int)) (fdK (n : Int)) := ⟨by omega, by omega, by omega, by omega, by omega⟩
    refine ⟨hF, by rw [hp, hk], by rw [h5], irr_has hF (by omega), by rw [hp]; exact a7, h.1, h.2.1⟩
end Go.Proofs.Ytbbaeopobnpnmaa
