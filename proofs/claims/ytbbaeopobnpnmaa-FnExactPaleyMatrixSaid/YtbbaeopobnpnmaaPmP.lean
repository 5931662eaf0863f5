/-
  PaleyMatrix as a plain law. No program in sight. Conditions: those of each theorem.
-/
import Derived.Test.YtbbaeopobnpnmaaFldE
import Derived.Test.YtbbaeopobnpnmaaSquare
namespace Go.Proofs.Ytbbaeopobnpnmaa
open Go.RowKit
set_option linter.unusedVariables false
set_option linter.unusedSimpArgs false

def pmSq (q : Int) : List Int := putsL (fsqL (fdP q) (fdK q) (fdY q) (fdP q ^ fdK q - 1))
/-- The sign of an element. -/
def pmS (p k : Nat) (sq : List Int) (a b : Nat) : Int := if hasB sq ((cmbF p k (-1) a b : Nat) : Int) = true then 1 else -1
def pmF (p k : Nat) (sq : List Int) (x y : Nat) : Int := if x = 0 ∨ y = 0 then 1 else pmS p k sq (y - 1) (x - 1)
def pmOk (q : Int) : Bool := decide (fdB q = true ∧ q % 4 = 3 ∧ q + 1 ≤ 32)
def pmM (q : Int) : List (List Int) := if pmOk q = true then sqTo (pmF (fdP q) (fdK q) (pmSq q)) (q.toNat + 1) (q.toNat + 1) else []
def pmC (q : Int) : Int := if pmOk q = true then 0 else 2
theorem PaleyMatrix_small (q : Int) : (pmM q).length ≤ 1048576 ∧ tot (pmM q) ≤ 1048576 := by
  unfold pmM
  split
  · next h =>
    have h := of_decide_eq_true h
    have h2 := (fd_spec h.1).2.2.2.2.2
    rw [length_sqTo, tot_sqTo]
    have : (q.toNat + 1) * (q.toNat + 1) ≤ 33 * 33 := Nat.mul_le_mul (by omega) (by omega)
    omega
  · simp [tot]
/-- The rows as the reference makes them. -/
def pmR (p k : Nat) (sq : List Int) (x m : Nat) : List Int := 1 :: (List.range m).map fun y => pmS p k sq y x
def pmX (p k : Nat) (sq : List Int) (n m : Nat) : List (List Int) := (1 :: List.replicate n 1) :: (List.range m).map fun x => pmR p k sq x n
theorem pmR_succ (p k : Nat) (sq : List Int) (x m : Nat) : pmR p k sq x (m + 1) = pmR p k sq x m ++ [pmS p k sq m x] := by simp [pmR, List.range_succ]
theorem pmX_succ (p k : Nat) (sq : List Int) (n m : Nat) : pmX p k sq n (m + 1) = pmX p k sq n m ++ [pmR p k sq m n] := by simp [pmX, List.range_succ]
theorem pmR_len (p k : Nat) (sq : List Int) (x m : Nat) : (pmR p k sq x m).length = m + 1 := by simp [pmR]
theorem pmX_len (p k : Nat) (sq : List Int) (n m : Nat) : (pmX p k sq n m).length = m + 1 := by simp [pmX]
theorem pmX_all (p k : Nat) (sq : List Int) (n : Nat) : pmX p k sq n n = sqTo (pmF p k sq) (n + 1) (n + 1) := by
  unfold pmX sqTo
  rw [List.range_succ_eq_map, List.map_cons, List.map_map]
  congr 1
  · unfold rowTo
    rw [List.range_succ_eq_map, List.map_cons, List.map_map]
    congr 1
    apply List.ext_getElem
    · simp
    · intro i h1 h2; simp [pmF]
  · refine List.map_congr_left fun x _ => ?_
    unfold pmR rowTo
    simp only [Function.comp_apply]
    rw [List.range_succ_eq_map, List.map_cons, List.map_map]
    congr 1
end Go.Proofs.Ytbbaeopobnpnmaa
