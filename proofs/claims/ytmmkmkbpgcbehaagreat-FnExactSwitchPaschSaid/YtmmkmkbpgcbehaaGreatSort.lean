/-
  slices.Sort at []int64 over a slice of the call's own; mappedSet of the program, l13Move of the reference. Conditions: those of each theorem.
-/
import Derived.Test.YtmmkmkbpgcbehaaGreatShelfI
import Derived.Test.YtmmkmkbpgcbehaaGreatDiff2
import Derived.Test.YtmmkmkbpgcbehaaGreatPut
import Derived.Test.YtmmkmkbpgcbehaaGreatGa
import Derived.Sort.OwnSortedInts
namespace Go.Proofs.YtmmkmkbpgcbehaaGreat
open Go.RowKit Go.Sort
set_option linter.unusedVariables false
set_option linter.unusedSimpArgs false

def sortL (xs : List Int) : List Int := xs.mergeSort fun x y => decide (x ≤ y)
theorem sortL_len (xs : List Int) : (sortL xs).length = xs.length := by simp [sortL]
theorem sortL_mem {xs : List Int} {z : Int} : z ∈ sortL xs ↔ z ∈ xs := by simp [sortL]
theorem sortL_le (xs : List Int) : (sortL xs).Pairwise (· ≤ ·) := by
  have h := List.pairwise_mergeSort (le := fun (x y : Int) => decide (x ≤ y)) (fun a b c h1 h2 => by simp at *; omega) (fun a b => by simp; omega) xs
  exact h.imp fun h => by simpa using h
theorem sortL_rise {xs : List Int} (h : xs.Nodup) : (sortL xs).Pairwise (· < ·) := by
  have h1 := sortL_le xs
  have h2 : (sortL xs).Nodup := (List.mergeSort_perm xs _).nodup_iff.2 h
  exact (h1.and h2).imp fun ⟨h3, h4⟩ => by have : _ ≠ _ := h4; omega

theorem sort_c (w : World) {lo : Nat} {A : Option Addr} {c n : Nat} {xs : List Int} (h : OwnI w lo A c xs) (hn : xs.length = n) (hz : n ≤ 1048576) :
    Calls Tryz.prog 56 #[.slice A n c] w fun e w' => e = .returned (.tuple #[]) ∧ OwnI w' lo A c (sortL xs) ∧ w.grownBy w' (blk A) := by
  subst hn
  rcases h.2 with ⟨e, hl⟩ | ⟨g, cap, cur, e, hg, hh, hc, hm, hs, ht⟩
  · injection e with e1 e2 e3
    subst e1 e3
    have hx : xs = [] := List.eq_nil_of_length_eq_zero hl
    subst hx
    refine (show Calls Tryz.prog 56 #[.slice none 0 0] w _ from AnyM.slices_Sort_int_none sortI none 0 w).mono fun e w' ⟨he, hw⟩ => ?_
    subst hw
    exact ⟨he, by simpa [sortL] using OwnI.nil_ _ lo, ⟨rfl, rfl, rfl, Nat.le_refl _, fun _ _ _ => rfl⟩⟩
  · injection e with e1 e2 e3
    subst e1 e3
    have hH := holds_of_blockI (ss := xs) hh (by simpa using ht)
    have hlt : g < w.heap.size := (Array.getElem?_eq_some_iff.1 hh).1
    refine (show Calls Tryz.prog 56 #[.slice (some ⟨g, 0, none⟩) xs.length c] w _ from AnyM.slices_Sort_int sortI g 0 c xs w hH hlt (by omega)).mono fun e w' ⟨he, n, os, hw⟩ => ?_
    subst hw
    refine ⟨he, ?_, grownBy_sortedI _⟩
    unfold OwnI
    rw [sortL_len]
    exact ownsRow_sortedI (sortL_len xs) hg hh hc hm hs

/-! ### What the reference puts together -/
theorem putL_cons (x v : Int) (xs : List Int) : (x < v ∧ putL (x :: xs) v = x :: putL xs v) ∨ (v < x ∧ putL (x :: xs) v = v :: x :: xs) ∨ (v = x ∧ putL (x :: xs) v = x :: xs) := by
  rcases Int.lt_trichotomy x v with h | h | h
  · left; exact ⟨h, (show (if v ≤ x then (if v < x then v :: x :: xs else x :: xs) else x :: putL xs v) = x :: putL xs v from if_neg (by omega))⟩
  · right; right; subst h; exact ⟨rfl, by simp [putL]⟩
  · right; left; exact ⟨h, by unfold putL; rw [if_pos (by omega), if_pos h]⟩
theorem putL_mem {xs : List Int} {v z : Int} : z ∈ putL xs v ↔ z = v ∨ z ∈ xs := by
  induction xs with
  | nil => simp [putL]
  | cons x xs ih =>
    rcases putL_cons x v xs with ⟨_, e⟩ | ⟨_, e⟩ | ⟨h, e⟩
    · rw [e, List.mem_cons, ih, List.mem_cons]
      constructor
      · rintro (h | h | h)
        · exact .inr (.inl h)
        · exact .inl h
        · exact .inr (.inr h)
      · rintro (h | h | h)
        · exact .inr (.inl h)
        · exact .inl h
        · exact .inr (.inr h)
    · rw [e, List.mem_cons]
    · rw [e, h]; simp
theorem putL_rise {xs : List Int} {v : Int} (h : xs.Pairwise (· < ·)) : (putL xs v).Pairwise (· < ·) := by
  induction xs with
  | nil => simp [putL]
  | cons x xs ih =>
    have h' := List.pairwise_cons.1 h
    rcases putL_cons x v xs with ⟨h1, e⟩ | ⟨h1, e⟩ | ⟨h1, e⟩
    · rw [e, List.pairwise_cons]
      refine ⟨fun z hz => ?_, ih h'.2⟩
      rcases putL_mem.1 hz with rfl | hz
      · exact h1
      · exact h'.1 z hz
    · rw [e, List.pairwise_cons]
      refine ⟨fun z hz => ?_, h⟩
      rcases List.mem_cons.1 hz with rfl | hz
      · exact h1
      · have := h'.1 z hz; omega
    · rw [e]; exact h
def putsTo (f : Nat → Int) : Nat → List Int
  | 0 => []
  | k + 1 => putL (putsTo f k) (f k)
theorem putsTo_mem {f : Nat → Int} {k : Nat} {z : Int} : z ∈ putsTo f k ↔ ∃ j, j < k ∧ f j = z := by
  induction k with
  | zero => simp [putsTo]
  | succ k ih =>
    rw [putsTo, putL_mem, ih]
    constructor
    · rintro (h | ⟨j, hj, h⟩)
      · exact ⟨k, by omega, h.symm⟩
      · exact ⟨j, by omega, h⟩
    · rintro ⟨j, hj, h⟩
      by_cases e : j = k
      · subst e; exact .inl h.symm
      · exact .inr ⟨j, by omega, h⟩
theorem putsTo_rise (f : Nat → Int) (k : Nat) : (putsTo f k).Pairwise (· < ·) := by
  induction k with
  | zero => simp [putsTo]
  | succ k ih => exact putL_rise ih
theorem putsTo_len (f : Nat → Int) (k : Nat) : (putsTo f k).length ≤ k := by
  induction k with
  | zero => simp [putsTo]
  | succ k ih => rw [putsTo]; have := putL_length (putsTo f k) (f k); omega
/-- Numbers that part from each other: sorted, or put one by one. -/
theorem putsTo_sort {f : Nat → Int} {k : Nat} (h : ∀ i j, i < j → j < k → f i ≠ f j) : putsTo f k = sortL ((List.range k).map f) := by
  have hnd : ((List.range k).map f).Nodup := by
    rw [List.Nodup, List.pairwise_map]
    refine List.Pairwise.imp_of_mem ?_ (List.pairwise_lt_range (n := k))
    intro a b ha hb hab
    exact h a b hab (List.mem_range.1 hb)
  refine rise_ext (putsTo_rise f k) (sortL_rise hnd) fun z => ?_
  rw [putsTo_mem, sortL_mem, List.mem_map]
  constructor
  · rintro ⟨j, hj, e⟩; exact ⟨j, List.mem_range.2 hj, e⟩
  · rintro ⟨j, hj, e⟩; exact ⟨j, List.mem_range.1 hj, e⟩
theorem range_succ_map (f : Nat → Int) (k : Nat) : (List.range (k + 1)).map f = (List.range k).map f ++ [f k] := by simp [List.range_succ]

end Go.Proofs.YtmmkmkbpgcbehaaGreat
