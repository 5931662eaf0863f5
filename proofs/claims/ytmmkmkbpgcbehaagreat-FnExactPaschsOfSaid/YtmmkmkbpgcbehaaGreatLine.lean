/-
  LineThrough: contracts of the program's and of the reference's functions. Conditions: those of each theorem.
-/
import Derived.Test.YtmmkmkbpgcbehaaGreatHas
namespace Go.Proofs.YtmmkmkbpgcbehaaGreat
open Go.RowKit
set_option linter.unusedVariables false
set_option linter.unusedSimpArgs false

def lineP (xss : List (List Int)) (a b : Int) (k : Nat) : Bool := hasB (row xss k) a && hasB (row xss k) b
def lineK (xss : List (List Int)) (a b : Int) : Int := firstIdx (lineP xss a b) xss.length
def lineV (p : Int) (xss : List (List Int)) (a b : Int) : Value :=
  if dsgB p xss = false then .tuple #[.int .i64 0, .int .i64 1]
  else if inB a 0 (p - 1) = false ∨ inB b 0 (p - 1) = false then .tuple #[.int .i64 0, .int .i64 2]
  else if lineK xss a b < 0 then .tuple #[.int .i64 0, .int .i64 3]
  else .tuple #[.int .i64 (lineK xss a b), .int .i64 0]

def lineI (p : Int) (xss : List (List Int)) (a b : Int) : Int := if dsgB p xss = false then 0 else if inB a 0 (p - 1) = false ∨ inB b 0 (p - 1) = false then 0 else if lineK xss a b < 0 then 0 else lineK xss a b
def lineC (p : Int) (xss : List (List Int)) (a b : Int) : Int := if dsgB p xss = false then 1 else if inB a 0 (p - 1) = false ∨ inB b 0 (p - 1) = false then 2 else if lineK xss a b < 0 then 3 else 0
theorem lineV_eq (p : Int) (xss : List (List Int)) (a b : Int) : lineV p xss a b = .tuple #[.int .i64 (lineI p xss a b), .int .i64 (lineC p xss a b)] := by
  unfold lineV lineI lineC
  repeat' split
  all_goals rfl

theorem firstIdx_ge (p : Nat → Bool) (n : Nat) : -1 ≤ firstIdx p n := by
  unfold firstIdx
  split <;> omega

end Go.Proofs.YtmmkmkbpgcbehaaGreat
