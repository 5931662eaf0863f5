/-
  planeOrder of the program, for affine and for projective planes. Conditions: those of each theorem.
-/
import Derived.Test.YtmmkmkbpgcbehaaGreatParams
namespace Go.Proofs.YtmmkmkbpgcbehaaGreat
open Go.RowKit
set_option linter.unusedVariables false
set_option linter.unusedSimpArgs false

def vA (m : Nat) : Nat := m * m
def kA (m : Nat) : Nat := m
def vP (m : Nat) : Nat := m * m + m + 1
def kP (m : Nat) : Nat := m + 1
theorem vA_ge (m : Nat) : m ≤ vA m + 1 := by unfold vA; rcases m with _ | m; omega; have := Nat.le_mul_of_pos_left (m + 1) (show 0 < m + 1 by omega); omega
theorem vP_ge (m : Nat) : m ≤ vP m + 1 := by unfold vP; omega
theorem vA_mono {m j : Nat} (h : m ≤ j) : vA m ≤ vA j := Nat.mul_le_mul h h
theorem vP_mono {m j : Nat} (h : m ≤ j) : vP m ≤ vP j := by unfold vP; have := Nat.mul_le_mul h h; omega
theorem sq_le {m : Nat} (h : m ≤ 34) : m * m ≤ 1156 := Nat.mul_le_mul h h
end Go.Proofs.YtmmkmkbpgcbehaaGreat
