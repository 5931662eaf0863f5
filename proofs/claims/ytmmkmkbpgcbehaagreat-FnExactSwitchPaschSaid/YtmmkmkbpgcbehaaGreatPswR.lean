/-
  A quadrilateral is switched: the blocks while they are exchanged. Conditions: those of each theorem.
-/
import Derived.Test.YtmmkmkbpgcbehaaGreatPswQ
namespace Go.Proofs.YtmmkmkbpgcbehaaGreat
open Go.RowKit
set_option linter.unusedVariables false
set_option linter.unusedSimpArgs false

theorem quad_nodup {P : Nat} {xss : List (List Int)} (hT : TripSys P xss) {q : List Int} (hq : q ∈ qdR xss) : q.Nodup := by
  obtain ⟨i, j, hi, hj, hp⟩ := qdR_mem.1 hq
  obtain ⟨t, ht, hm, hc, rfl⟩ := qPair_rows hp
  obtain ⟨h1, h2, h3, h4, h5, h6, h7⟩ := hT.four (show i ≠ j by omega) hi (by omega) hm ht
  unfold qd
  refine (List.mergeSort_perm _ _).nodup_iff.2 ?_
  simp only [List.nodup_cons, List.mem_cons, List.not_mem_nil, or_false, List.nodup_nil, and_true, not_false_eq_true]
  omega
def spM (P : Nat) (xss : List (List Int)) (q : List Int) (i : Nat) : List (List Int) := (List.range xss.length).map fun (k : Nat) => if hasB (q.take i) (k : Int) = true then imL (swp P (spF xss q) (spO xss q)) (row xss k) else row xss k
theorem spM_len (P : Nat) (xss : List (List Int)) (q : List Int) (i : Nat) : (spM P xss q i).length = xss.length := by simp [spM]
theorem spM_row {P : Nat} {xss : List (List Int)} {q : List Int} {i k : Nat} (hk : k < xss.length) : row (spM P xss q i) k = if hasB (q.take i) (k : Int) = true then imL (swp P (spF xss q) (spO xss q)) (row xss k) else row xss k := by
  rw [row_eq (by rw [spM_len]; exact hk)]
  simp [spM]
theorem spM_zero (P : Nat) (xss : List (List Int)) (q : List Int) : spM P xss q 0 = xss := by
  apply List.ext_getElem
  · rw [spM_len]
  · intro k h1 h2
    have := spM_row (P := P) (q := q) (i := 0) h2
    rw [row_eq h1] at this
    rw [this, List.take_zero, if_neg (by simp [hasB]), row_eq h2]
theorem spM_all {P : Nat} {xss : List (List Int)} {q : List Int} (h : q.length = 4) : spM P xss q 4 = spL P xss q := by
  unfold spM spL spRow
  rw [List.take_of_length_le (by omega)]
theorem spM_old {P : Nat} {xss : List (List Int)} {q : List Int} (hd : q.Nodup) {i k : Nat} (hi : i < q.length) (hk : nth q i = (k : Int)) (hkx : k < xss.length) : row (spM P xss q i) k = row xss k := by
  rw [spM_row hkx, if_neg]
  intro h
  rw [hasB_true, ← hk, nth_eq hi] at h
  obtain ⟨j, hj, e⟩ := List.getElem_of_mem h
  rw [List.getElem_take] at e
  have hj' : j < i := by rw [List.length_take] at hj; omega
  exact List.pairwise_iff_getElem.1 hd j i (by omega) hi hj' e
theorem spM_set {P : Nat} {xss : List (List Int)} {q : List Int} {i k : Nat} (hi : i < q.length) (hk : nth q i = (k : Int)) (hkx : k < xss.length) : (spM P xss q i).set k (imL (swp P (spF xss q) (spO xss q)) (row xss k)) = spM P xss q (i + 1) := by
  apply List.ext_getElem
  · rw [List.length_set, spM_len, spM_len]
  · intro j h1 h2
    have hj : j < xss.length := by rw [spM_len] at h2; exact h2
    have e1 := spM_row (P := P) (q := q) (i := i) hj
    have e2 := spM_row (P := P) (q := q) (i := i + 1) hj
    rw [row_eq (by rw [spM_len]; exact hj)] at e1 e2
    rw [List.getElem_set, e2, e1, take_nth hi, hk]
    by_cases e : k = j
    · subst e
      rw [if_pos rfl, if_pos (hasB_true.2 (List.mem_append.2 (.inr (List.mem_singleton.2 rfl))))]
    · rw [if_neg e]
      have : hasB (q.take i ++ [(k : Int)]) (j : Int) = hasB (q.take i) (j : Int) := by
        rw [Bool.eq_iff_iff, hasB_true, hasB_true, List.mem_append, List.mem_singleton]
        constructor
        · rintro (h | h)
          · exact h
          · exact absurd h (by omega)
        · exact .inl
      rw [this]
theorem spM_rows {P : Nat} {xss : List (List Int)} (hT : TripSys P xss) {q : List Int} {i k : Nat} (hk : k < xss.length) : (row (spM P xss q i) k).length ≤ 3 := by
  have h3 := hT.three k hk
  rw [spM_row hk]
  split
  · have := imL_len (swp P (spF xss q) (spO xss q)) (row xss k); omega
  · omega
theorem spX_eq {p : Int} {xss : List (List Int)} {q : List Int} (h1 : tripB p xss = true) (h2 : fdB (qdR xss) q = true) : spC p xss q = 0 ∧ spP p xss q = p ∧ spX p xss q = sortLL (spL p.toNat xss q) := by
  have h : spC p xss q = 0 := (if_pos h1).trans (if_pos h2)
  exact ⟨h, if_pos h, if_pos h⟩
theorem spX_no {p : Int} {xss : List (List Int)} {q : List Int} (h : spC p xss q ≠ 0) : spP p xss q = 0 ∧ spX p xss q = [] := ⟨if_neg h, if_neg h⟩
theorem tot_le {xss : List (List Int)} {m : Nat} (h : ∀ x ∈ xss, x.length ≤ m) : tot xss ≤ m * xss.length := by
  induction xss with
  | nil => simp [tot]
  | cons x xs ih =>
    have h1 := ih (fun y hy => h y (List.mem_cons_of_mem _ hy))
    have h2 := h x (List.mem_cons_self ..)
    rw [show tot (x :: xs) = x.length + tot xs by simp [tot], List.length_cons, Nat.mul_succ]
    omega
theorem SwitchPasch_small (p : Int) (xss : List (List Int)) (q : List Int) : (spX p xss q).length ≤ 1048576 ∧ tot (spX p xss q) ≤ 1048576 := by
  by_cases h : spC p xss q = 0
  · have ht : tripB p xss = true := by
      unfold spC at h
      split at h
      · assumption
      · omega
    have hd := trip_dsg ht
    obtain ⟨P, rfl⟩ : ∃ P : Nat, p = (P : Int) := ⟨p.toNat, by have := hd.1.1.1; omega⟩
    obtain ⟨hD, hT⟩ := trip_sys ht
    have hn : xss.length ≤ 128 := by have := hD.2.1; omega
    unfold spX
    rw [if_pos h]
    have hl : (sortLL (spL P xss q)).length ≤ 128 := by rw [sortLL_len, spL_len]; exact hn
    have hr : ∀ x ∈ sortLL (spL P xss q), x.length ≤ 3 := fun x hx => by
      have hx' := (List.mergeSort_perm (spL P xss q) _).mem_iff.1 hx
      obtain ⟨k, hk, rfl⟩ := List.mem_map.1 hx'
      exact spRow_len hT (List.mem_range.1 hk)
    have := tot_le hr
    show (sortLL (spL P xss q)).length ≤ 1048576 ∧ tot (sortLL (spL P xss q)) ≤ 1048576
    omega
  · unfold spX
    rw [if_neg h]
    simp [tot_nil]
end Go.Proofs.YtmmkmkbpgcbehaaGreat
