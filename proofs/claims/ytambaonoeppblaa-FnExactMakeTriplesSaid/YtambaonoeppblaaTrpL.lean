/-
  What MakeTriples answers, in plain Lean. Conditions: those of each theorem.
-/
import Derived.Test.YtambaonoeppblaaTrpB
import Derived.Test.YtambaonoeppblaaTripleOrders
import Derived.Test.YtambaonoeppblaaCompP
namespace Go.Proofs.Ytambaonoeppblaa
open Go.RowKit
set_option linter.unusedVariables false
set_option linter.unusedSimpArgs false

theorem sortLL_perm {xss yss : List (List Int)} (h : xss.Perm yss) : sortLL xss = sortLL yss :=
  sortLL_unique ((List.mergeSort_perm xss _).trans h) (sortLL_pw xss)
/-- How many blocks: at each order exactly v (v - 1) / 6. -/
theorem mtX_cnt {v : Nat} (h : tripleB (v : Int) = true) : (mtX v).length ≤ 128 := by
  have hv : v = 3 ∨ v = 7 ∨ v = 9 ∨ v = 13 ∨ v = 15 ∨ v = 19 ∨ v = 21 ∨ v = 25 ∨ v = 27 := by
    unfold tripleB at h; rw [decide_eq_true_eq] at h; omega
  have hl : ∀ (f : Nat → Nat) (n x k : Nat), (mxY f n x k).length = (List.range k).foldl (fun a y => if x < y then a + 3 else a) 0 := fun f n x k => by
    induction k with
    | zero => simp [mxY]
    | succ k ih =>
      have : mxY f n x (k + 1) = mxY f n x k ++ (if x < k then mxI f n x k 3 else []) := by simp [mxY, List.range_succ]
      rw [this, List.length_append, ih, List.range_succ, List.foldl_append]
      simp only [List.foldl_cons, List.foldl_nil]
      split
      · simp [mxI]
      · simp
  have hx : ∀ (f : Nat → Nat) (n k : Nat), (mxX f n k).length = (List.range k).foldl (fun a x => a + (List.range n).foldl (fun a y => if x < y then a + 3 else a) 0) 0 := fun f n k => by
    induction k with
    | zero => simp [mxX]
    | succ k ih => rw [mxX_succ, List.length_append, ih, hl, List.range_succ, List.foldl_append]; rfl
  unfold mtX
  split
  · rw [List.length_append, hx, ldX_cnt]
    rcases hv with rfl | rfl | rfl | rfl | rfl | rfl | rfl | rfl | rfl <;> first | decide | (exfalso; omega)
  · rw [List.length_append, hx, skX_cnt]
    rcases hv with rfl | rfl | rfl | rfl | rfl | rfl | rfl | rfl | rfl <;> first | decide | (exfalso; omega)
/-- What MakeTriples answers. -/
def mkTP (v : Int) : Int := if tripleB v = true then v else 0
def mkTX (v : Int) : List (List Int) := if tripleB v = true then sortLL (mtX v.toNat) else []
def mkTC (v : Int) : Int := if tripleB v = true then 0 else 2
theorem MakeTriples_small (v : Int) : (mkTX v).length ≤ 1048576 ∧ tot (mkTX v) ≤ 1048576 := by
  unfold mkTX
  split
  · next h =>
    have h0 : 0 ≤ v := by unfold tripleB at h; rw [decide_eq_true_eq] at h; omega
    have hc : (mtX v.toNat).length ≤ 128 := mtX_cnt (by rw [Int.toNat_of_nonneg h0]; exact h)
    have h4 : tot (sortLL (mtX v.toNat)) ≤ (sortLL (mtX v.toNat)).length * 3 := tot_le_of (fun r hr => by
      have := sortLL_mem.1 hr
      unfold mtX at this
      split at this
      · rcases List.mem_append.1 this with h | h
        · rw [mxX_len h]; omega
        · rw [ldX_len h]; omega
      · rcases List.mem_append.1 this with h | h
        · rw [mxX_len h]; omega
        · rw [skX_len h]; omega)
    rw [sortLL_len] at h4 ⊢
    omega
  · simp [tot]
end Go.Proofs.Ytambaonoeppblaa
