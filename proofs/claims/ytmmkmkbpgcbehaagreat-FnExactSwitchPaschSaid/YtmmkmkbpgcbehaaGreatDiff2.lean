/-
  DifferenceTable: l13Set, l13Ok of the reference, areBases of the program, and both answers. Conditions: those of each theorem.
-/
import Derived.Test.YtmmkmkbpgcbehaaGreatDiff
import Derived.Test.YtmmkmkbpgcbehaaGreatGa
namespace Go.Proofs.YtmmkmkbpgcbehaaGreat
open Go.RowKit
set_option linter.unusedVariables false
set_option linter.unusedSimpArgs false

def Set13 (n : Int) (xs : List Int) : Prop := (1 ≤ n ∧ n ≤ 32) ∧ RiseTo 0 (n - 1) xs xs.length
instance (n : Int) (xs : List Int) : Decidable (Set13 n xs) := by unfold Set13; infer_instance
def set13 (n : Int) (xs : List Int) : Bool := decide (Set13 n xs)

/-- What the sets of a family have to be. -/
def Base (n : Int) (sets : List (List Int)) (k : Nat) : Prop := ∀ j, j < k → Set13 n (row sets j) ∧ 0 < (row sets j).length
def BaseOk (n : Int) (sets : List (List Int)) : Prop := Base n sets sets.length ∧ (1 ≤ n ∧ n ≤ 32) ∧ sets.length ≤ 8
instance (n : Int) (sets : List (List Int)) (k : Nat) : Decidable (Base n sets k) := by unfold Base; infer_instance
instance (n : Int) (sets : List (List Int)) : Decidable (BaseOk n sets) := by unfold BaseOk; infer_instance
def baseB (n : Int) (sets : List (List Int)) : Bool := decide (BaseOk n sets)

theorem base_blocks (n : Int) (sets : List (List Int)) : baseB n sets = (blocksB sets n && decide (sets.length ≤ 8)) := by
  unfold baseB blocksB
  rw [← Bool.decide_and]
  refine decide_eq_decide.2 ⟨fun h => ⟨⟨h.2.1, fun k hk => ?_⟩, h.2.2⟩, fun h => ⟨fun j hj => ?_, h.1.1, h.2⟩⟩
  · have := h.1 k hk
    simp only [blockB, setB, Bool.and_eq_true, decide_eq_true_eq]
    exact ⟨this.2, this.1.2, by have := h.2.1; omega, h.2.1.2⟩
  · have h2 := h.1.2 j hj
    simp only [blockB, setB, Bool.and_eq_true, decide_eq_true_eq] at h2
    exact ⟨⟨h.1.1, h2.2.1⟩, h2.1⟩

theorem BaseOk.sets {n : Nat} {sets : List (List Int)} (h : BaseOk (n : Int) sets) : SetsOk n sets :=
  ⟨by have := h.2.1; omega, by have := h.2.1; omega, fun i hi => ⟨(h.1 i hi).1.2, (h.1 i hi).2⟩⟩

def diffL (n : Int) (sets : List (List Int)) : List Int := if baseB n sets then incS n.toNat sets sets.length else []
def diffC (n : Int) (sets : List (List Int)) : Int := if baseB n sets then 0 else 1
theorem DifferenceTable_small (n : Int) (sets : List (List Int)) : (diffL n sets).length ≤ 1048576 := by
  unfold diffL
  split
  · next h =>
      have h := of_decide_eq_true h
      rw [length_incS]
      have := h.2.1
      omega
  · simp

end Go.Proofs.YtmmkmkbpgcbehaaGreat
