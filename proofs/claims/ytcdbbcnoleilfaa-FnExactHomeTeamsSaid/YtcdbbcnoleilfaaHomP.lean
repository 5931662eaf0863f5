/-
  HomeTeams as a plain law. Conditions: those of each theorem.
-/
import Derived.Test.YtcdbbcnoleilfaaRound
import Derived.Test.YtcdbbcnoleilfaaHas
namespace Go.Proofs.Ytcdbbcnoleilfaa
open Go.RowKit
set_option linter.unusedVariables false
set_option linter.unusedSimpArgs false

/-- The first and the second team of pair j of round r, and whether the first plays at home. -/
def hA (m r j : Nat) : Nat := if j = 0 then r else (r + j) % m
def hB (m r j : Nat) : Nat := if j = 0 then m else (r + m - j) % m
def hFst (r j : Nat) : Bool := if j = 0 then decide (r % 2 = 0) else decide (j % 2 = 1)
def hPr (m r j : Nat) : List Int := prL (hA m r j) (hB m r j)
def hPk (m r j : Nat) : Nat := if hFst r j = true then hA m r j else hB m r j
def hmL (m r k : Nat) : List Int := (List.range k).map fun j => (hPk m r j : Int)
theorem hmL_succ (m r k : Nat) : hmL m r (k + 1) = hmL m r k ++ [(hPk m r k : Int)] := by simp [hmL, List.range_succ]
theorem hmL_len (m r k : Nat) : (hmL m r k).length = k := by simp [hmL]
theorem rr_hPr {N m : Nat} (hN : N = m + 1) (h2 : N % 2 = 0) (r k : Nat) : rrTo N m r k = (List.range (k + 1)).map (hPr m r) := by
  unfold rrTo
  rw [if_pos h2, List.range_succ_eq_map, List.map_cons, List.map_map, List.singleton_append]
  congr 1
  unfold hPr hA hB
  rw [if_pos rfl, if_pos rfl, show N - 1 = m by omega]
theorem mod_once {a m : Nat} (h : a < 2 * m) : a % m = if a < m then a else a - m := by
  split
  · next h1 => exact Nat.mod_eq_of_lt h1
  · next h1 => rw [Nat.mod_eq_sub_mod (by omega), Nat.mod_eq_of_lt (by omega)]
section
variable {h m r : Nat}
theorem hA_eq (hr : r < m) {j : Nat} (hj : j < m) : hA m r j = if r + j < m then r + j else r + j - m := by
  unfold hA
  split
  · next e => subst e; rw [if_pos (by omega)]; rfl
  · exact mod_once (by omega)
theorem hB_eq (hr : r < m) {j : Nat} (hj : j < m) : hB m r j = if j = 0 then m else if r + m - j < m then r + m - j else r + m - j - m := by
  unfold hB
  split
  · rfl
  · exact mod_once (by omega)
theorem hm_dis (hm : m = 2 * h + 1) (hr : r < m) {j k x : Nat} (hj : j ≤ h) (hk : k ≤ h) (e : x = hA m r j ∨ x = hB m r j) (e' : x = hA m r k ∨ x = hB m r k) : j = k := by
  rw [hA_eq hr (by omega), hB_eq hr (by omega)] at e e'
  rcases e with e | e <;> rcases e' with e' | e' <;> (repeat' split at e) <;> (repeat' split at e') <;> omega
theorem hm_lt (hm : m = 2 * h + 1) (hr : r < m) {j : Nat} (hj : j ≤ h) : hA m r j < m ∧ hB m r j ≤ m := by
  rw [hA_eq hr (by omega), hB_eq hr (by omega)]
  constructor <;> (repeat' split) <;> omega
theorem hPk_or (m r j : Nat) : hPk m r j = hA m r j ∨ hPk m r j = hB m r j := by
  unfold hPk
  split
  · exact .inl rfl
  · exact .inr rfl
theorem hPr_inj (hm : m = 2 * h + 1) (hr : r < m) {j k : Nat} (hj : j ≤ h) (hk : k ≤ h) (e : hPr m r j = hPr m r k) : j = k := by
  unfold hPr prL at e
  injection e with e1 e2
  refine hm_dis hm hr (x := min (hA m r j) (hB m r j)) hj hk ?_ ?_ <;> omega
/-- What the reference puts for a pair. -/
def hG (m r h : Nat) (p : List Int) : Int := if hasB (hmL m r (h + 1)) (nth p 0) = true then nth p 0 else nth p 1
theorem hG_pair (hm : m = 2 * h + 1) (hr : r < m) {k : Nat} (hk : k ≤ h) : hG m r h (hPr m r k) = (hPk m r k : Int) := by
  have hp := hPk_or m r k
  have e0 : nth (hPr m r k) 0 = ((min (hA m r k) (hB m r k) : Nat) : Int) := rfl
  have e1 : nth (hPr m r k) 1 = ((max (hA m r k) (hB m r k) : Nat) : Int) := rfl
  unfold hG
  rw [e0, e1]
  split
  · next h1 =>
    rw [hasB_true] at h1
    obtain ⟨j, hj, e⟩ := List.mem_map.1 h1
    rw [List.mem_range] at hj
    have hq := hPk_or m r j
    have := hm_dis hm hr (x := hPk m r j) (j := j) (k := k) (by omega) hk hq (by omega)
    subst this
    omega
  · next h1 =>
    rw [hasB_true] at h1
    have h2 : ((hPk m r k : Nat) : Int) ∈ hmL m r (h + 1) := List.mem_map.2 ⟨k, List.mem_range.2 (by omega), rfl⟩
    have h3 : hPk m r k ≠ min (hA m r k) (hB m r k) := fun e => h1 (by rw [← e]; exact h2)
    omega
/-- What the program has when k pairs are placed. -/
def hV (m r h k : Nat) (p : List Int) : Int := if p ∈ (List.range k).map (hPr m r) then hG m r h p else 0
def hL (m r h : Nat) : List (List Int) := sortLL ((List.range (h + 1)).map (hPr m r))
theorem hL_perm (m r h : Nat) : (hL m r h).Perm ((List.range (h + 1)).map (hPr m r)) := List.mergeSort_perm _ _
theorem hL_len (m r h : Nat) : (hL m r h).length = h + 1 := by rw [(hL_perm m r h).length_eq]; simp
theorem hL_nodup (hm : m = 2 * h + 1) (hr : r < m) : (hL m r h).Nodup := by
  rw [(hL_perm m r h).nodup_iff]
  unfold List.Nodup
  rw [List.pairwise_map]
  refine List.Pairwise.imp_of_mem ?_ (List.nodup_range (n := h + 1))
  intro a b ha hb hne e
  exact hne (hPr_inj hm hr (by have := List.mem_range.1 ha; omega) (by have := List.mem_range.1 hb; omega) e)
theorem hL_two {p : List Int} (hp : p ∈ hL m r h) : p.length = 2 := by
  obtain ⟨j, _, e⟩ := List.mem_map.1 ((hL_perm m r h).mem_iff.1 hp)
  rw [← e]; rfl
theorem hL_at {k : Nat} (hk : k ≤ h) : ∃ i, i < h + 1 ∧ row (hL m r h) i = hPr m r k := by
  have h1 : hPr m r k ∈ hL m r h := (hL_perm m r h).mem_iff.2 (List.mem_map.2 ⟨k, List.mem_range.2 (by omega), rfl⟩)
  obtain ⟨i, hi, e⟩ := List.getElem_of_mem h1
  have hl := hL_len m r h
  exact ⟨i, by omega, by rw [row_eq hi]; exact e⟩
theorem hV_zero (m r h : Nat) : (hL m r h).map (hV m r h 0) = (List.range (h + 1)).map fun _ => (0 : Int) := by
  have h1 : (hL m r h).map (hV m r h 0) = (hL m r h).map fun _ => (0 : Int) := List.map_congr_left fun p _ => by unfold hV; rw [if_neg (by simp)]
  rw [h1, List.map_const', List.map_const', hL_len, List.length_range]
theorem hV_all (m r h : Nat) : (hL m r h).map (hV m r h (h + 1)) = (hL m r h).map (hG m r h) := List.map_congr_left fun p hp => by
  unfold hV; rw [if_pos ((hL_perm m r h).mem_iff.1 hp)]
theorem hV_step (hm : m = 2 * h + 1) (hr : r < m) {k i : Nat} (hk : k ≤ h) (hi : i < h + 1) (e : row (hL m r h) i = hPr m r k) :
    ((hL m r h).map (hV m r h k)).set i (hPk m r k : Int) = (hL m r h).map (hV m r h (k + 1)) := by
  have hl := hL_len m r h
  have hnd := hL_nodup hm hr
  refine List.ext_getElem (by simp) fun j h1 h2 => ?_
  rw [List.length_map] at h2
  rw [List.getElem_set, List.getElem_map, List.getElem_map]
  split
  · next e2 =>
    subst e2
    have e3 : (hL m r h)[i] = hPr m r k := by rw [← row_eq h2]; exact e
    unfold hV
    rw [e3, if_pos (List.mem_map.2 ⟨k, List.mem_range.2 (by omega), rfl⟩), hG_pair hm hr hk]
  · next e2 =>
    have hne : (hL m r h)[j] ≠ hPr m r k := fun e3 => by
      rw [← e, row_eq (by omega)] at e3
      exact e2 ((List.getElem_inj hnd).1 e3).symm
    unfold hV
    have hex : (List.range (k + 1)).map (hPr m r) = (List.range k).map (hPr m r) ++ [hPr m r k] := by rw [List.range_succ, List.map_append, List.map_singleton]
    have hm5 : ∀ p, p ∈ (List.range (k + 1)).map (hPr m r) ↔ p ∈ (List.range k).map (hPr m r) ∨ p = hPr m r k := fun p => by rw [hex, List.mem_append, List.mem_singleton]
    by_cases h4 : (hL m r h)[j] ∈ (List.range k).map (hPr m r)
    · rw [if_pos h4, if_pos ((hm5 _).2 (.inl h4))]
    · rw [if_neg h4, if_neg]
      intro h5
      rcases (hm5 _).1 h5 with h5 | h5
      · exact h4 h5
      · exact hne h5
end
def hoR (m h r : Nat) : List Int := (hL m r h).map (hG m r h)
def hoTo (m h k : Nat) : List (List Int) := (List.range k).map (hoR m h)
theorem hoTo_succ (m h k : Nat) : hoTo m h (k + 1) = hoTo m h k ++ [hoR m h k] := by simp [hoTo, List.range_succ]
theorem hoTo_len (m h k : Nat) : (hoTo m h k).length = k := by simp [hoTo]
theorem hoR_len (m h r : Nat) : (hoR m h r).length = h + 1 := by unfold hoR; rw [List.length_map, hL_len]
def hoOk (n : Int) : Bool := inB n 2 32 && decide (Int.tmod n 2 = 0)
def hoC (n : Int) : Int := if hoOk n = true then 0 else 2
def hoX (n : Int) : List (List Int) := if hoOk n = true then hoTo (n.toNat - 1) ((n.toNat - 2) / 2) (n.toNat - 1) else []
theorem ho_facts {n : Int} (h : hoOk n = true) : ∃ h : Nat, n = ((2 * h + 2 : Nat) : Int) ∧ h ≤ 15 := by
  unfold hoOk at h
  rw [Bool.and_eq_true, decide_eq_true_eq] at h
  have h1 := inB_true.1 h.1
  have h2 := h.2
  rw [Int.tmod_eq_emod_of_nonneg (by omega)] at h2
  exact ⟨(n.toNat - 2) / 2, by omega, by omega⟩
theorem HomeTeams_small (n : Int) : (hoX n).length ≤ 1048576 ∧ tot (hoX n) ≤ 1048576 := by
  unfold hoX
  split
  · next h =>
    obtain ⟨g, rfl, hg⟩ := ho_facts h
    rw [show (((2 * g + 2 : Nat) : Int)).toNat = 2 * g + 2 by omega, show 2 * g + 2 - 1 = 2 * g + 1 by omega, show (2 * g + 2 - 2) / 2 = g by omega]
    rw [hoTo_len]
    refine ⟨by omega, ?_⟩
    have h1 : ∀ k, tot (hoTo (2 * g + 1) g k) = k * (g + 1) := by
      intro k
      induction k with
      | zero => simp [hoTo, tot]
      | succ k ih => rw [hoTo_succ, tot_append, ih, tot_one, hoR_len, Nat.succ_mul]
    rw [h1]
    have := Nat.mul_le_mul (show 2 * g + 1 ≤ 31 by omega) (show g + 1 ≤ 16 by omega)
    omega
  · simp [tot]
end Go.Proofs.Ytcdbbcnoleilfaa
