/-
  The reference's l00Put: a number put to its place among rising ones. Conditions: those of each theorem.
-/
import Derived.Test.YthgbfgdnljgicaaMat
namespace Go.Proofs.Ythgbfgdnljgicaa
open Go.RowKit
set_option linter.unusedVariables false
set_option linter.unusedSimpArgs false

def putL : List Int → Int → List Int
  | [], n => [n]
  | x :: xs, n => if n ≤ x then (if n < x then n :: x :: xs else x :: xs) else x :: putL xs n

theorem putL_less {xs : List Int} {n : Int} {k : Nat} (hk : k ≤ xs.length) (h : ∀ j, j < k → nth xs j < n) : putL xs n = xs.take k ++ putL (xs.drop k) n := by
  induction xs generalizing k with
  | nil => simp at hk; subst hk; simp
  | cons x xs ih =>
    match k, hk with
    | 0, _ => simp
    | k + 1, hk =>
      have h0 := h 0 (by omega)
      have hx : ¬ n ≤ x := by simp [nth] at h0; omega
      rw [putL, if_neg hx, List.take_succ_cons, List.drop_succ_cons, List.cons_append, ih (by simpa using hk) (fun j hj => by
        have := h (j + 1) (by omega)
        simpa [nth] using this)]
theorem putL_here {xs : List Int} {n : Int} {k : Nat} (hk : k < xs.length) (h : ∀ j, j < k → nth xs j < n) (hn : n < nth xs k) : putL xs n = xs.take k ++ [n] ++ [nth xs k] ++ xs.drop (k + 1) := by
  rw [putL_less (Nat.le_of_lt hk) h, List.drop_eq_getElem_cons hk, putL, ← nth_eq hk, if_pos (by omega), if_pos hn]
  simp
theorem putL_same {xs : List Int} {n : Int} {k : Nat} (hk : k < xs.length) (h : ∀ j, j < k → nth xs j < n) (hn : n = nth xs k) : putL xs n = xs.take k ++ [nth xs k] ++ xs.drop (k + 1) := by
  rw [putL_less (Nat.le_of_lt hk) h, List.drop_eq_getElem_cons hk, putL, ← nth_eq hk, if_pos (by omega), if_neg (by omega)]
  simp
theorem putL_end {xs : List Int} {n : Int} (h : ∀ j, j < xs.length → nth xs j < n) : putL xs n = xs ++ [n] := by
  rw [putL_less (Nat.le_refl _) h]; simp [putL]
theorem putL_length (xs : List Int) (n : Int) : (putL xs n).length ≤ xs.length + 1 := by
  induction xs with
  | nil => simp [putL]
  | cons x xs ih => unfold putL; split <;> (try split) <;> simp <;> omega

/-- What has been written when k numbers have been seen; d: n has its place. -/
def PutTo (xs : List Int) (n : Int) (k : Nat) (d : Bool) (o : List Int) : Prop :=
  (d = false → (∀ j, j < k → nth xs j < n) ∧ o = xs.take k) ∧ (d = true → o ++ xs.drop k = putL xs n)
theorem PutTo.zero (xs : List Int) (n : Int) : PutTo xs n 0 false [] := ⟨fun _ => ⟨fun j hj => absurd hj (by omega), by simp⟩, fun h => by cases h⟩
theorem PutTo.next {xs : List Int} {n : Int} {k : Nat} {o : List Int} (h : PutTo xs n k true o) (hk : k < xs.length) : PutTo xs n (k + 1) true (o ++ [nth xs k]) := by
  refine ⟨(fun h => by cases h), fun _ => ?_⟩
  rw [← h.2 rfl, List.drop_eq_getElem_cons hk, nth_eq hk]; simp
theorem PutTo.less {xs : List Int} {n : Int} {k : Nat} {o : List Int} (h : PutTo xs n k false o) (hk : k < xs.length) (hn : nth xs k < n) : PutTo xs n (k + 1) false (o ++ [nth xs k]) := by
  obtain ⟨h1, rfl⟩ := h.1 rfl
  refine ⟨fun _ => ⟨fun j hj => ?_, (take_nth hk).symm⟩, (fun h => by cases h)⟩
  by_cases e : j = k
  · subst e; exact hn
  · exact h1 j (by omega)
theorem PutTo.here {xs : List Int} {n : Int} {k : Nat} {o : List Int} (h : PutTo xs n k false o) (hk : k < xs.length) (hn : n < nth xs k) : PutTo xs n (k + 1) true (o ++ [n] ++ [nth xs k]) := by
  obtain ⟨h1, rfl⟩ := h.1 rfl
  exact ⟨(fun h => by cases h), fun _ => (putL_here hk h1 hn).symm⟩
theorem PutTo.same {xs : List Int} {n : Int} {k : Nat} {o : List Int} (h : PutTo xs n k false o) (hk : k < xs.length) (hn : n = nth xs k) : PutTo xs n (k + 1) true (o ++ [nth xs k]) := by
  obtain ⟨h1, rfl⟩ := h.1 rfl
  exact ⟨(fun h => by cases h), fun _ => (putL_same hk h1 hn).symm⟩
theorem PutTo.done {xs : List Int} {n : Int} {o : List Int} (h : PutTo xs n xs.length true o) : o = putL xs n := by
  rw [← h.2 rfl]; simp
theorem PutTo.last {xs : List Int} {n : Int} {o : List Int} (h : PutTo xs n xs.length false o) : o ++ [n] = putL xs n := by
  obtain ⟨h1, rfl⟩ := h.1 rfl
  rw [putL_end h1]; simp
theorem blk_of {w w' : World} {lo : Nat} {A : Option Addr} {c : Nat} {xs : List Int} (h : OwnI w lo A c xs) (hg : w.grownBy w' (blk A)) {a : World} {B : Nat} (hB : Below B a w) (hl : B ≤ lo) (hs : B ≤ w.heap.size) : Below B a w' :=
  hB.trans (below_blk h hg hl hs)

end Go.Proofs.Ythgbfgdnljgicaa
