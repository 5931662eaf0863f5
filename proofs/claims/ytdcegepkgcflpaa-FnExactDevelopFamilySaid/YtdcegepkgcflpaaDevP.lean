/-
  DevelopFamily as a plain law. No program in sight. Conditions: those of each theorem.
-/
import Derived.Test.YtdcegepkgcflpaaCompP
import Derived.Test.YtdcegepkgcflpaaSet13b
namespace Go.Proofs.Ytdcegepkgcflpaa
open Go.RowKit
set_option linter.unusedVariables false
set_option linter.unusedSimpArgs false

def dvL (N : Nat) (sets : List (List Int)) : Nat → List (List Int)
  | 0 => []
  | k + 1 => dvL N sets k ++ (List.range N).map fun (b : Nat) => mvL N (row sets k) 1 (b : Int)
def dvTo (N : Nat) (sets : List (List Int)) (k b : Nat) : List (List Int) := dvL N sets k ++ (List.range b).map fun (b : Nat) => mvL N (row sets k) 1 (b : Int)
theorem dvTo_zero (N : Nat) (sets : List (List Int)) (k : Nat) : dvTo N sets k 0 = dvL N sets k := by simp [dvTo]
theorem dvTo_all (N : Nat) (sets : List (List Int)) (k : Nat) : dvTo N sets k N = dvL N sets (k + 1) := rfl
theorem dvTo_succ (N : Nat) (sets : List (List Int)) (k b : Nat) : dvTo N sets k (b + 1) = dvTo N sets k b ++ [mvL N (row sets k) 1 (b : Int)] := by simp [dvTo, List.range_succ]
theorem dvL_len (N : Nat) (sets : List (List Int)) {k : Nat} (hN : N ≤ 32) : (dvL N sets k).length ≤ 32 * k := by
  induction k with
  | zero => simp [dvL]
  | succ k ih =>
    rw [dvL, List.length_append, List.length_map, List.length_range]
    omega
theorem dvTo_len (N : Nat) (sets : List (List Int)) {k b : Nat} (hN : N ≤ 32) (hk : k ≤ 8) (hb : b ≤ 32) : (dvTo N sets k b).length ≤ 288 := by
  have := dvL_len N sets (k := k) hN
  rw [dvTo, List.length_append, List.length_map, List.length_range]
  omega
theorem dvL_mem {N : Nat} {sets : List (List Int)} {k : Nat} {r : List Int} (h : r ∈ dvL N sets k) : ∃ j b, j < k ∧ b < N ∧ r = mvL N (row sets j) 1 ((b : Nat) : Int) := by
  induction k with
  | zero => simp [dvL] at h
  | succ k ih =>
    rw [dvL, List.mem_append] at h
    rcases h with h | h
    · obtain ⟨j, b, hj, hb, e⟩ := ih h
      exact ⟨j, b, by omega, hb, e⟩
    · obtain ⟨b, hb, e⟩ := List.mem_map.1 h
      exact ⟨k, b, by omega, List.mem_range.1 hb, e.symm⟩
theorem mvL_block {N : Nat} {xs : List Int} (h : Set13 (N : Int) xs) (hp : 0 < xs.length) (b : Nat) : blockB (mvL N xs 1 (b : Int)) (N : Int) = true := by
  obtain ⟨⟨hN1, hN2⟩, hbd, _, _⟩ := set13_facts h
  unfold blockB
  rw [Bool.and_eq_true, decide_eq_true_eq]
  have hmem : ∀ z ∈ mvL N xs 1 (b : Int), 0 ≤ z ∧ z < (N : Int) := fun z hz => by
    obtain ⟨j, hj, e⟩ := putsTo_mem.1 hz
    have h1 := hbd j hj
    obtain ⟨u, hu⟩ : ∃ u : Nat, nth xs j = (u : Int) := ⟨(nth xs j).toNat, by omega⟩
    have h2 := mvF_nat (N := N) (t := 1) (b := b) hu
    rw [← e, show (1 : Int) = ((1 : Nat) : Int) from rfl, h2]
    have := Nat.mod_lt (u * 1 + b) (show 0 < N by omega)
    omega
  refine ⟨?_, setB_iff.2 ⟨putsTo_rise _ _, hmem, by omega, by omega⟩⟩
  have : mvF N xs 1 (b : Int) 0 ∈ mvL N xs 1 (b : Int) := putsTo_mem.2 ⟨0, hp, rfl⟩
  exact List.length_pos_of_mem this
def dvP (n : Int) (sets : List (List Int)) : Int := if baseB n sets = true then mkP n (dvL n.toNat sets sets.length) else 0
def dvX (n : Int) (sets : List (List Int)) : List (List Int) := if baseB n sets = true then mkL (dvL n.toNat sets sets.length) else []
def dvC (n : Int) (sets : List (List Int)) : Int := if baseB n sets = true then mkC (dvL n.toNat sets sets.length) else 1
theorem dv_set {N : Nat} {sets : List (List Int)} (h : BaseOk (N : Int) sets) {j : Nat} (hj : j < sets.length) : Set13 (N : Int) (row sets j) ∧ 0 < (row sets j).length ∧ (row sets j).length ≤ 32 := by
  obtain ⟨h1, h2⟩ := h.1 j hj
  exact ⟨h1, h2, by have := (set13_facts h1).2.2.2; have := h.2.1.2; omega⟩
theorem DevelopFamily_small (n : Int) (sets : List (List Int)) : (dvX n sets).length ≤ 1048576 ∧ tot (dvX n sets) ≤ 1048576 := by
  unfold dvX
  split
  · next h =>
    have hb : BaseOk n sets := of_decide_eq_true h
    obtain ⟨N, rfl⟩ : ∃ N : Nat, n = (N : Int) := ⟨n.toNat, by have := hb.2.1.1; omega⟩
    refine mk_small fun r hr => ?_
    obtain ⟨j, b, hj, hbN, rfl⟩ := dvL_mem hr
    have h1 := mvL_len ((N : Int).toNat) (row sets j) 1 (b : Int)
    have h2 := (dv_set hb hj).2.2
    omega
  · simp [tot]
end Go.Proofs.Ytdcegepkgcflpaa
