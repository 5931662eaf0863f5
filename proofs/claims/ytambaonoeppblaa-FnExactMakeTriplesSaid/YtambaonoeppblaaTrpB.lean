/-
  The blocks of MakeTriples, in plain Lean. Conditions: those of each theorem.
-/
import Derived.Test.YtambaonoeppblaaTrpA
namespace Go.Proofs.Ytambaonoeppblaa
open Go.RowKit
set_option linter.unusedVariables false
set_option linter.unusedSimpArgs false

def mxB (f : Nat → Nat) (n x y i : Nat) : List Int := trp ((x : Int) + (n * i : Nat)) ((y : Int) + (n * i : Nat)) ((f ((x + y) % n) : Int) + (n * ((i + 1) % 3) : Nat))
def mxI (f : Nat → Nat) (n x y k : Nat) : List (List Int) := (List.range k).map (mxB f n x y)
def mxY (f : Nat → Nat) (n x k : Nat) : List (List Int) := (List.range k).flatMap fun y => if x < y then mxI f n x y 3 else []
def mxX (f : Nat → Nat) (n k : Nat) : List (List Int) := (List.range k).flatMap fun x => mxY f n x n
theorem mxI_succ (f : Nat → Nat) (n x y k : Nat) : mxI f n x y (k + 1) = mxI f n x y k ++ [mxB f n x y k] := by simp [mxI, List.range_succ]
theorem mxY_succ {f : Nat → Nat} {n x k : Nat} (h : x < k) : mxY f n x (k + 1) = mxY f n x k ++ mxI f n x k 3 := by simp [mxY, List.range_succ, h]
theorem mxY_zero (f : Nat → Nat) (n x : Nat) : mxY f n x (x + 1) = [] := by
  unfold mxY
  rw [List.flatMap_eq_nil_iff]
  intro y hy
  rw [if_neg (by have := List.mem_range.1 hy; omega)]
theorem mxX_succ (f : Nat → Nat) (n k : Nat) : mxX f n (k + 1) = mxX f n k ++ mxY f n k n := by simp [mxX, List.range_succ]
/-- The lead block of a point. -/
def ldB (n x : Nat) : List Int := trp (x : Int) ((x : Int) + (n : Int)) ((x : Int) + (2 * n : Nat))
def ldX (n k : Nat) : List (List Int) := (List.range k).map (ldB n)
theorem ldX_succ (n k : Nat) : ldX n (k + 1) = ldX n k ++ [ldB n k] := by simp [ldX, List.range_succ]
def bsX (f : Nat → Nat) (n k : Nat) : List (List Int) := (List.range k).flatMap fun x => ldB n x :: mxY f n x n
theorem bsX_succ (f : Nat → Nat) (n k : Nat) : bsX f n (k + 1) = bsX f n k ++ [ldB n k] ++ mxY f n k n := by simp [bsX, List.range_succ]
theorem bsX_perm (f : Nat → Nat) (n k : Nat) : (bsX f n k).Perm (mxX f n k ++ ldX n k) := by
  induction k with
  | zero => simp [bsX, mxX, ldX]
  | succ k ih =>
    rw [bsX_succ, mxX_succ, ldX_succ]
    have h1 : (bsX f n k ++ [ldB n k] ++ mxY f n k n).Perm ((mxX f n k ++ ldX n k) ++ ([ldB n k] ++ mxY f n k n)) := by
      rw [List.append_assoc]; exact ih.append_right _
    refine h1.trans ?_
    rw [List.append_assoc, List.append_assoc]
    refine List.Perm.append_left _ ?_
    rw [← List.append_assoc]
    exact List.perm_append_comm
def skB (n t x i : Nat) : List Int := trp ((3 * n : Nat) : Int) ((x : Int) + (t : Int) + (n * i : Nat)) ((x : Int) + (n * ((i + 1) % 3) : Nat))
def skI (n t x k : Nat) : List (List Int) := (List.range k).map (skB n t x)
theorem skI_succ (n t x k : Nat) : skI n t x (k + 1) = skI n t x k ++ [skB n t x k] := by simp [skI, List.range_succ]
def skX (n t k : Nat) : List (List Int) := (List.range k).flatMap fun x => ldB n x :: skI n t x 3
theorem skX_succ (n t k : Nat) : skX n t (k + 1) = skX n t k ++ [ldB n k] ++ skI n t k 3 := by simp [skX, List.range_succ]
def boF (t n s : Nat) : Nat := (t + 1) * s % n
def skF (t s : Nat) : Nat := s / 2 + s % 2 * t
theorem boF_mod (t n s : Nat) : boF t n (s % n) = (t + 1) * s % n := by unfold boF; exact Nat.mul_mod_mod ..
theorem boF_lt {t n s : Nat} (hn : 0 < n) : boF t n s < n := Nat.mod_lt _ hn
theorem skF_lt {t s : Nat} (hs : s < 2 * t) : skF t s < 2 * t := by
  unfold skF
  have : s % 2 = 0 ∨ s % 2 = 1 := by omega
  rcases this with e | e <;> rw [e] <;> omega
/-- The blocks as the program puts them together. -/
def mtX (v : Nat) : List (List Int) :=
  if v % 6 = 3 then mxX (boF (v / 6) (2 * (v / 6) + 1)) (2 * (v / 6) + 1) (2 * (v / 6) + 1) ++ ldX (2 * (v / 6) + 1) (2 * (v / 6) + 1)
  else mxX (skF (v / 6)) (2 * (v / 6)) (2 * (v / 6)) ++ skX (2 * (v / 6)) (v / 6) (v / 6)
theorem mxX_len {f : Nat → Nat} {n k : Nat} {r : List Int} (h : r ∈ mxX f n k) : r.length = 3 := by
  simp only [mxX, mxY, mxI, List.mem_flatMap, List.mem_range] at h
  obtain ⟨x, _, y, _, h⟩ := h
  split at h
  · obtain ⟨i, _, rfl⟩ := List.mem_map.1 h
    exact trp_len _ _ _
  · simp at h
theorem ldX_len {n k : Nat} {r : List Int} (h : r ∈ ldX n k) : r.length = 3 := by
  obtain ⟨i, _, rfl⟩ := List.mem_map.1 h
  exact trp_len _ _ _
theorem skX_len {n t k : Nat} {r : List Int} (h : r ∈ skX n t k) : r.length = 3 := by
  simp only [skX, skI, List.mem_flatMap, List.mem_range] at h
  obtain ⟨x, _, h⟩ := h
  rcases List.mem_cons.1 h with rfl | h
  · exact trp_len _ _ _
  · obtain ⟨i, _, rfl⟩ := List.mem_map.1 h
    exact trp_len _ _ _
theorem mxY_cnt (f : Nat → Nat) (n x k : Nat) : (mxY f n x k).length ≤ 3 * k := by
  induction k with
  | zero => simp [mxY]
  | succ k ih =>
    have : mxY f n x (k + 1) = mxY f n x k ++ (if x < k then mxI f n x k 3 else []) := by simp [mxY, List.range_succ]
    rw [this, List.length_append]
    split
    · have : (mxI f n x k 3).length = 3 := by simp [mxI]
      omega
    · simp; omega
theorem mxX_cnt (f : Nat → Nat) (n k : Nat) : (mxX f n k).length ≤ 3 * n * k := by
  induction k with
  | zero => simp [mxX]
  | succ k ih =>
    rw [mxX_succ, List.length_append, Nat.mul_succ]
    have := mxY_cnt f n k n
    omega
theorem ldX_cnt (n k : Nat) : (ldX n k).length = k := by simp [ldX]
theorem skX_cnt (n t k : Nat) : (skX n t k).length = 4 * k := by
  induction k with
  | zero => simp [skX]
  | succ k ih =>
    rw [skX_succ, List.length_append, List.length_append, ih]
    simp [skI]; omega
end Go.Proofs.Ytambaonoeppblaa
