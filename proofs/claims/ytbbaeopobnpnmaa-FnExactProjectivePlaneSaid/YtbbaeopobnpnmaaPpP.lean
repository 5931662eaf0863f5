/-
  ProjectivePlane as a plain law. No program in sight. Conditions: those of each theorem.
-/
import Derived.Test.YtbbaeopobnpnmaaApP
namespace Go.Proofs.Ytbbaeopobnpnmaa
open Go.RowKit
set_option linter.unusedVariables false
set_option linter.unusedSimpArgs false

/-- The triples, as they are gathered. -/
def pjT0 (m : Nat) : List (List Int) := [0, 0, 1] :: (List.range m).map fun (z : Nat) => [0, 1, (z : Int)]
def pjTz (y m : Nat) : List (List Int) := (List.range m).map fun (z : Nat) => [1, (y : Int), (z : Int)]
def pjTy (n m : Nat) : List (List Int) := (List.range m).flatMap fun y => pjTz y n
def pjT (n : Nat) : List (List Int) := pjT0 n ++ pjTy n n
theorem pjT0_succ (m : Nat) : pjT0 (m + 1) = pjT0 m ++ [[0, 1, (m : Int)]] := by simp [pjT0, List.range_succ]
theorem pjTz_succ (y m : Nat) : pjTz y (m + 1) = pjTz y m ++ [[1, (y : Int), (m : Int)]] := by simp [pjTz, List.range_succ]
theorem pjTy_succ (n m : Nat) : pjTy n (m + 1) = pjTy n m ++ pjTz m n := by simp [pjTy, List.range_succ]
theorem pjT0_len (m : Nat) : (pjT0 m).length = m + 1 := by simp [pjT0]
theorem pjTz_len (y m : Nat) : (pjTz y m).length = m := by simp [pjTz]
theorem pjTy_len (n m : Nat) : (pjTy n m).length = m * n := by
  induction m with
  | zero => simp [pjTy]
  | succ m ih => rw [pjTy_succ, List.length_append, ih, pjTz_len, Nat.succ_mul]
theorem pjT_len (n : Nat) : (pjT n).length = n * n + n + 1 := by unfold pjT; rw [List.length_append, pjT0_len, pjTy_len]; omega
/-- Three numbers up to B. -/
def In3 (B : Nat) (r : List Int) : Prop := ∃ a b c : Nat, r = [(a : Int), (b : Int), (c : Int)] ∧ a ≤ B ∧ b ≤ B ∧ c ≤ B
theorem pjT0_in {B m : Nat} (h : m ≤ B + 1) (hB : 1 ≤ B) {r : List Int} (hr : r ∈ pjT0 m) : In3 B r := by
  unfold pjT0 at hr
  rcases List.mem_cons.1 hr with e | hr
  · exact ⟨0, 0, 1, e, by omega, by omega, hB⟩
  · obtain ⟨z, hz, e⟩ := List.mem_map.1 hr
    have := List.mem_range.1 hz
    exact ⟨0, 1, z, e.symm, by omega, hB, by omega⟩
theorem pjTz_in {B y m : Nat} (h : m ≤ B + 1) (hy : y ≤ B) (hB : 1 ≤ B) {r : List Int} (hr : r ∈ pjTz y m) : In3 B r := by
  unfold pjTz at hr
  obtain ⟨z, hz, e⟩ := List.mem_map.1 hr
  have := List.mem_range.1 hz
  exact ⟨1, y, z, e.symm, hB, hy, by omega⟩
theorem pjTy_in {B n m : Nat} (h : n ≤ B + 1) (hm : m ≤ B + 1) (hB : 1 ≤ B) {r : List Int} (hr : r ∈ pjTy n m) : In3 B r := by
  unfold pjTy at hr
  obtain ⟨y, hy, hr⟩ := List.mem_flatMap.1 hr
  have := List.mem_range.1 hy
  exact pjTz_in h (by omega) hB hr
theorem pjT_in {n : Nat} (hn : 2 ≤ n) {r : List Int} (hr : r ∈ pjT n) : In3 n r := by
  unfold pjT at hr
  rcases List.mem_append.1 hr with h | h
  · exact pjT0_in (by omega) (by omega) h
  · exact pjTy_in (by omega) (by omega) (by omega) h
/-- Number c of triple i. -/
def pjE (n i c : Nat) : Nat := (nth (row (pjT n) i) c).toNat
theorem pjE_eq {n i c : Nat} (hn : 2 ≤ n) (hi : i < (pjT n).length) (hc : c < 3) : nth (row (pjT n) i) c = ((pjE n i c : Nat) : Int) ∧ pjE n i c ≤ n := by
  obtain ⟨a, b, d, e, h1, h2, h3⟩ := pjT_in hn (show row (pjT n) i ∈ pjT n by rw [row_eq hi]; exact List.getElem_mem _)
  unfold pjE
  rw [e]
  rcases (show c = 0 ∨ c = 1 ∨ c = 2 by omega) with rfl | rfl | rfl <;> simp [nth] <;> omega
theorem pjT_row {n i : Nat} (hn : 2 ≤ n) (hi : i < (pjT n).length) : row (pjT n) i = [((pjE n i 0 : Nat) : Int), ((pjE n i 1 : Nat) : Int), ((pjE n i 2 : Nat) : Int)] := by
  obtain ⟨a, b, d, e, h1, h2, h3⟩ := pjT_in hn (show row (pjT n) i ∈ pjT n by rw [row_eq hi]; exact List.getElem_mem _)
  unfold pjE
  rw [e]
  simp [nth]
theorem pjT_row_len {n i : Nat} (hn : 2 ≤ n) (hi : i < (pjT n).length) : (row (pjT n) i).length = 3 := by rw [pjT_row hn hi]; rfl
/-- The first c summands of the product of two triples. -/
def pjD (p k : Nat) (poly : List Int) (n i j : Nat) : Nat → Nat
  | 0 => 0
  | c + 1 => cmbF p k 1 (pjD p k poly n i j c) (mulF p k poly (pjE n i c) (pjE n j c))
/-- The points below m of line i. -/
def pjL (d : Nat → Nat → Nat) (i m : Nat) : List Int := ((List.range m).filter fun j => decide (d i j = 0)).map fun (j : Nat) => (j : Int)
theorem pjL_hit {d : Nat → Nat → Nat} {i m : Nat} (h : d i m = 0) : pjL d i (m + 1) = pjL d i m ++ [(m : Int)] := by
  unfold pjL; rw [List.range_succ, List.filter_append, List.map_append]; congr 1; simp [h]
theorem pjL_miss {d : Nat → Nat → Nat} {i m : Nat} (h : d i m ≠ 0) : pjL d i (m + 1) = pjL d i m := by
  unfold pjL; rw [List.range_succ, List.filter_append]; simp [h]
theorem pjL_len (d : Nat → Nat → Nat) (i m : Nat) : (pjL d i m).length ≤ m := by
  unfold pjL
  rw [List.length_map]
  have := List.length_filter_le (fun j => decide (d i j = 0)) (List.range m)
  rwa [List.length_range] at this
/-- The first m lines. -/
def pjB (d : Nat → Nat → Nat) (M m : Nat) : List (List Int) := (List.range m).map fun i => pjL d i M
theorem pjB_succ (d : Nat → Nat → Nat) (M m : Nat) : pjB d M (m + 1) = pjB d M m ++ [pjL d m M] := by simp [pjB, List.range_succ]
theorem pjB_len (d : Nat → Nat → Nat) (M m : Nat) : (pjB d M m).length = m := by simp [pjB]
theorem pjB_rows {d : Nat → Nat → Nat} {M m : Nat} {r : List Int} (h : r ∈ pjB d M m) : r.length ≤ M := by
  unfold pjB at h
  obtain ⟨i, _, e⟩ := List.mem_map.1 h
  rw [← e]; exact pjL_len _ _ _
def pjOk (q : Int) : Bool := decide (fdB q = true ∧ q * q + q + 1 ≤ 32)
def pjDq (q : Int) (i j : Nat) : Nat := pjD (fdP q) (fdK q) (fdY q) q.toNat i j 3
def pjN (n : Nat) : Nat := n * n + n + 1
def pjP (q : Int) : Int := if pjOk q = true then ((pjN q.toNat : Nat) : Int) else 0
def pjX (q : Int) : List (List Int) := if pjOk q = true then sortLL (pjB (pjDq q) (pjN q.toNat) (pjN q.toNat)) else []
def pjC (q : Int) : Int := if pjOk q = true then 0 else 2
theorem pjOk_nat {q : Int} (h : pjOk q = true) : fdB q = true ∧ q * q + q + 1 ≤ 32 ∧ 2 ≤ q ∧ q ≤ 5 := by
  have h := of_decide_eq_true h
  have h2 := (fd_spec h.1).2.2.2.2.2
  refine ⟨h.1, h.2, h2.1, ?_⟩
  rcases Int.lt_or_le 5 q with h6 | h6
  · have : 6 * 6 ≤ q * q := Int.mul_le_mul h6 h6 (by omega) (by omega)
    omega
  · exact h6
theorem pjN_le {n : Nat} (h : n ≤ 5) : pjN n ≤ 31 := by unfold pjN; have : n * n ≤ 5 * 5 := Nat.mul_le_mul h h; omega
theorem ProjectivePlane_small (q : Int) : (pjX q).length ≤ 1048576 ∧ tot (pjX q) ≤ 1048576 := by
  unfold pjX
  split
  · next h =>
    obtain ⟨_, _, h2, h5⟩ := pjOk_nat h
    have := pjN_le (n := q.toNat) (by omega)
    exact sortLL_small (by rw [pjB_len]; omega) fun r hr => by have := pjB_rows hr; omega
  · simp [tot]
theorem pj_split (q : Int) : (pjOk q = false ∧ pjP q = 0 ∧ pjX q = [] ∧ pjC q = 2) ∨ ∃ n : Nat, q = (n : Int) ∧ pjOk (n : Int) = true ∧ pjP q = ((pjN n : Nat) : Int) ∧ pjX q = sortLL (pjB (pjDq (n : Int)) (pjN n) (pjN n)) ∧ pjC q = 0 := by
  rcases h : pjOk q with _ | _
  · exact .inl ⟨rfl, if_neg (by rw [h]; simp), if_neg (by rw [h]; simp), if_neg (by rw [h]; simp)⟩
  · obtain ⟨_, _, h2, _⟩ := pjOk_nat h
    obtain ⟨n, rfl⟩ : ∃ n : Nat, q = (n : Int) := ⟨q.toNat, by omega⟩
    exact .inr ⟨n, rfl, h, if_pos h, if_pos h, if_pos h⟩
end Go.Proofs.Ytbbaeopobnpnmaa
