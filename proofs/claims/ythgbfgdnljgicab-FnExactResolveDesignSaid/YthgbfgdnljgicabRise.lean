/-
  Rising lists as sets: two rising lists with the same members are one; what meet and minus are then. No program in sight. Conditions: those of each theorem.
-/
import Derived.Test.YthgbfgdnljgicabHas
namespace Go.Proofs.Ythgbfgdnljgicab
set_option linter.unusedVariables false
set_option linter.unusedSimpArgs false

theorem rise_ext {xs ys : List Int} (hx : xs.Pairwise (· < ·)) (hy : ys.Pairwise (· < ·)) (h : ∀ z, z ∈ xs ↔ z ∈ ys) : xs = ys := by
  induction xs generalizing ys with
  | nil =>
    cases ys with
    | nil => rfl
    | cons y l => exact absurd ((h y).2 (by simp)) (by simp)
  | cons x m ih =>
    cases ys with
    | nil => exact absurd ((h x).1 (by simp)) (by simp)
    | cons y l =>
      rw [List.pairwise_cons] at hx hy
      have hxy : x = y := by
        have h1 := (h x).1 (by simp)
        have h2 := (h y).2 (by simp)
        rw [List.mem_cons] at h1 h2
        rcases h1 with h1 | h1
        · exact h1
        · rcases h2 with h2 | h2
          · exact h2.symm
          · have := hx.1 y h2
            have := hy.1 x h1
            omega
      subst hxy
      congr 1
      refine ih hx.2 hy.2 fun z => ?_
      have hz := h z
      rw [List.mem_cons, List.mem_cons] at hz
      constructor
      · intro hm
        rcases hz.1 (.inr hm) with e | e
        · subst e; have := hx.1 z hm; omega
        · exact e
      · intro hm
        rcases hz.2 (.inr hm) with e | e
        · subst e; have := hy.1 z hm; omega
        · exact e

theorem RiseTo.lt {lo hi : Int} {xs : List Int} {k : Nat} (h : RiseTo lo hi xs k) {i : Nat} : ∀ j, j < k → i < j → nth xs i < nth xs j := by
  intro j
  induction j with
  | zero => intro _ h'; omega
  | succ j ih =>
    intro hj hij
    have h1 := (h (j + 1) hj).2 (by omega)
    rw [Nat.add_sub_cancel] at h1
    by_cases e : i = j
    · subst e; exact h1
    · have := ih (by omega) (by omega); omega
theorem RiseTo.pairwise {lo hi : Int} {xs : List Int} (h : RiseTo lo hi xs xs.length) : xs.Pairwise (· < ·) := by
  rw [List.pairwise_iff_getElem]
  intro i j hi hj hij
  have := h.lt j hj hij
  rwa [nth_eq hi, nth_eq hj] at this
theorem RiseTo.mem {lo hi : Int} {xs : List Int} (h : RiseTo lo hi xs xs.length) {z : Int} (hz : z ∈ xs) : lo ≤ z ∧ z ≤ hi := by
  obtain ⟨k, hk, rfl⟩ := mem_nth.1 hz
  exact (h k hk).1
theorem rise_of {lo hi : Int} {xs : List Int} (h : xs.Pairwise (· < ·)) (hm : ∀ z ∈ xs, lo ≤ z ∧ z ≤ hi) : RiseTo lo hi xs xs.length := fun j hj => by
  refine ⟨?_, fun h0 => ?_⟩
  · rw [nth_eq hj]; exact hm _ (List.getElem_mem hj)
  · rw [nth_eq hj, nth_eq (by omega)]
    exact List.pairwise_iff_getElem.1 h _ _ (by omega) hj (by omega)
theorem setB_iff {xs : List Int} {n : Int} : setB xs n = true ↔ xs.Pairwise (· < ·) ∧ (∀ z ∈ xs, 0 ≤ z ∧ z < n) ∧ 0 ≤ n ∧ n ≤ 32 := by
  unfold setB
  rw [decide_eq_true_eq]
  constructor
  · rintro ⟨h, h1, h2⟩
    exact ⟨h.pairwise, fun z hz => by have := h.mem hz; omega, h1, h2⟩
  · rintro ⟨h, hm, h1, h2⟩
    exact ⟨rise_of h fun z hz => by have := hm z hz; omega, h1, h2⟩
theorem setB_more {xs : List Int} {n m : Int} (h : setB xs n = true) (h1 : n ≤ m) (h2 : m ≤ 32) : setB xs m = true := by
  rw [setB_iff] at h ⊢
  exact ⟨h.1, fun z hz => by have := h.2.1 z hz; omega, by omega, h2⟩
theorem blockB_set {xs : List Int} {n : Int} (h : blockB xs n = true) : setB xs n = true := by
  unfold blockB at h
  rw [Bool.and_eq_true] at h
  exact h.2
theorem blockB_pos {xs : List Int} {n : Int} (h : blockB xs n = true) : 0 < xs.length := by
  unfold blockB at h
  rw [Bool.and_eq_true] at h
  exact of_decide_eq_true h.1

theorem mem_fltTo {xs ys : List Int} {g : Bool → Bool → Bool} {k : Nat} {z : Int} : z ∈ fltTo xs ys g k ↔ (0 ≤ z ∧ z < (k : Int)) ∧ g (hasB xs z) (hasB ys z) = true := by
  unfold fltTo
  rw [List.mem_map]
  constructor
  · rintro ⟨j, hj, rfl⟩
    rw [List.mem_filter, List.mem_range] at hj
    exact ⟨by omega, hj.2⟩
  · rintro ⟨⟨h0, h1⟩, h2⟩
    refine ⟨z.toNat, ?_, by omega⟩
    rw [List.mem_filter, List.mem_range]
    refine ⟨by omega, ?_⟩
    unfold fltB
    rw [show ((z.toNat : Nat) : Int) = z by omega]
    exact h2
theorem fltTo_rise (xs ys : List Int) (g : Bool → Bool → Bool) (k : Nat) : (fltTo xs ys g k).Pairwise (· < ·) := by
  unfold fltTo
  rw [List.pairwise_map]
  refine List.Pairwise.filter _ ?_
  refine List.Pairwise.imp ?_ List.pairwise_lt_range
  intro a b h
  omega
theorem filter_rise {xs : List Int} (h : xs.Pairwise (· < ·)) (p : Int → Bool) : (xs.filter p).Pairwise (· < ·) := h.filter p
theorem meetL_eq {xs ys : List Int} (hx : setB xs 32 = true) (hy : setB ys 32 = true) : meetL xs ys = ys.filter (hasB xs) := by
  unfold meetL filtL
  rw [if_pos ⟨hx, hy⟩]
  have h2 := setB_iff.1 hy
  refine rise_ext (fltTo_rise _ _ _ _) (filter_rise h2.1 _) fun z => ?_
  rw [mem_fltTo, List.mem_filter, Bool.and_eq_true, hasB_true, hasB_true]
  constructor
  · rintro ⟨_, h3, h4⟩; exact ⟨h4, h3⟩
  · rintro ⟨h3, h4⟩; exact ⟨h2.2.1 z h3, h4, h3⟩
theorem meetL_eq' {xs ys : List Int} (hx : setB xs 32 = true) (hy : setB ys 32 = true) : meetL xs ys = xs.filter (hasB ys) := by
  unfold meetL filtL
  rw [if_pos ⟨hx, hy⟩]
  have h2 := setB_iff.1 hx
  refine rise_ext (fltTo_rise _ _ _ _) (filter_rise h2.1 _) fun z => ?_
  rw [mem_fltTo, List.mem_filter, Bool.and_eq_true, hasB_true, hasB_true]
  constructor
  · rintro ⟨_, h3, h4⟩; exact ⟨h3, h4⟩
  · rintro ⟨h3, h4⟩; exact ⟨h2.2.1 z h3, h3, h4⟩
theorem minusL_eq {xs ys : List Int} (hx : setB xs 32 = true) (hy : setB ys 32 = true) : minusL xs ys = xs.filter (fun z => !hasB ys z) := by
  unfold minusL filtL
  rw [if_pos ⟨hx, hy⟩]
  have h2 := setB_iff.1 hx
  refine rise_ext (fltTo_rise _ _ _ _) (filter_rise h2.1 _) fun z => ?_
  rw [mem_fltTo, List.mem_filter, Bool.and_eq_true, hasB_true]
  constructor
  · rintro ⟨_, h3, h4⟩; exact ⟨h3, h4⟩
  · rintro ⟨h3, h4⟩; exact ⟨h2.2.1 z h3, h3, h4⟩
end Go.Proofs.Ythgbfgdnljgicab
