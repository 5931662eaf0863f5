/-
  identity of the program. Conditions: none.
-/
import Derived.Test.YthgbfgdnljgicaaMat
namespace Go.Proofs.Ythgbfgdnljgicaa
open Go.RowKit
set_option linter.unusedVariables false
set_option linter.unusedSimpArgs false

def idL (n : Nat) : List Int := (List.range n).map fun (i : Nat) => (i : Int)
theorem idL_len (n : Nat) : (idL n).length = n := by simp [idL]
def idTo (n k : Nat) : List Int := (List.range n).map fun (i : Nat) => if i < k then (i : Int) else 0
theorem idTo_len (n k : Nat) : (idTo n k).length = n := by simp [idTo]
theorem idTo_zero (n : Nat) : idTo n 0 = List.replicate n 0 := by
  apply List.ext_getElem
  · simp [idTo]
  · intro k h1 h2; simp [idTo]
theorem idTo_set {n k : Nat} (hk : k < n) : (idTo n k).set k (k : Int) = idTo n (k + 1) := by
  apply List.ext_getElem
  · simp [idTo]
  · intro j h1 h2
    rw [List.getElem_set]
    simp only [idTo, List.getElem_map, List.getElem_range]
    by_cases e : k = j
    · subst e; rw [if_pos rfl, if_pos (by omega)]
    · rw [if_neg e]
      by_cases h : j < k
      · rw [if_pos h, if_pos (by omega)]
      · rw [if_neg h, if_neg (by omega)]
theorem idTo_all (n : Nat) : idTo n n = idL n := by
  unfold idTo idL
  exact List.map_congr_left fun i hi => if_pos (List.mem_range.1 hi)

end Go.Proofs.Ythgbfgdnljgicaa
