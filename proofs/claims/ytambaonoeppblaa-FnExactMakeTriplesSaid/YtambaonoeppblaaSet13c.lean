/-
  TranslateSet and MultiplySet: contents, and the walks of both sides. Conditions: those of each theorem.
-/
import Derived.Test.YtambaonoeppblaaSet13b
namespace Go.Proofs.Ytambaonoeppblaa
open Go.RowKit
set_option linter.unusedVariables false
set_option linter.unusedSimpArgs false

def trL (n : Int) (xs : List Int) (b : Int) : List Int := if askC n xs b = 0 then mvL n.toNat xs 1 b else []
def muL (n : Int) (xs : List Int) (b : Int) : List Int := if askC n xs b = 0 ∧ Nat.gcd b.toNat n.toNat = 1 then mvL n.toNat xs b 0 else []
def muC (n : Int) (xs : List Int) (b : Int) : Int := if askC n xs b = 0 then (if Nat.gcd b.toNat n.toNat = 1 then 0 else 6) else askC n xs b
theorem askC_zero {n : Int} {xs : List Int} {b : Int} (h : askC n xs b = 0) : Set13 n xs ∧ 0 ≤ b ∧ b ≤ n - 1 := by
  unfold askC at h
  split at h
  · omega
  · next h1 =>
    split at h
    · omega
    · next h2 =>
      have h3 : set13 n xs = true := by simpa using h1
      have h4 : inB b 0 (n - 1) = true := by simpa using h2
      exact ⟨of_decide_eq_true h3, inB_true.1 h4⟩
theorem set13_len {n : Int} {xs : List Int} (h : Set13 n xs) : xs.length ≤ 32 := by
  have h1 := rise_len h.2 (by have := h.1; omega)
  have := h.1
  omega
theorem TranslateSet_small (n : Int) (xs : List Int) (b : Int) : (trL n xs b).length ≤ 1048576 := by
  unfold trL
  split
  · next h => have := mvL_len n.toNat xs 1 b; have := set13_len (askC_zero h).1; omega
  · simp
theorem MultiplySet_small (n : Int) (xs : List Int) (b : Int) : (muL n xs b).length ≤ 1048576 := by
  unfold muL
  split
  · next h => have := mvL_len n.toNat xs b 0; have := set13_len (askC_zero h.1).1; omega
  · simp

end Go.Proofs.Ytambaonoeppblaa
