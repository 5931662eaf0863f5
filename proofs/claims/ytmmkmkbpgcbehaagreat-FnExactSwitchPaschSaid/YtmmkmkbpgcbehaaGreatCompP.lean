/-
  ComplementDesign as a plain law: what is in no block. No program in sight. Conditions: those of each theorem.
-/
import Derived.Test.YtmmkmkbpgcbehaaGreatGb
import Derived.Test.YtmmkmkbpgcbehaaGreatMake
namespace Go.Proofs.YtmmkmkbpgcbehaaGreat
open Go.RowKit
set_option linter.unusedVariables false
set_option linter.unusedSimpArgs false

theorem sortLL_mem {xss : List (List Int)} {r : List Int} : r ∈ sortLL xss ↔ r ∈ xss := (List.mergeSort_perm _ _).mem_iff
theorem tot_le_of {xss : List (List Int)} {B : Nat} (h : ∀ r ∈ xss, r.length ≤ B) : tot xss ≤ xss.length * B := by
  induction xss with
  | nil => simp [tot]
  | cons q p ih =>
    have h1 := ih (fun r hr => h r (List.mem_cons_of_mem _ hr))
    have h2 := h q (List.mem_cons_self ..)
    rw [List.length_cons, Nat.succ_mul]
    simp [tot] at *
    omega
theorem mk_small {xss : List (List Int)} (h : ∀ r ∈ xss, r.length ≤ 1000) : (mkL xss).length ≤ 1048576 ∧ tot (mkL xss) ≤ 1048576 := by
  unfold mkL
  split
  · next hl =>
    have h1 := tot_le_of (xss := sortLL xss) (B := 1000) (fun r hr => h r (sortLL_mem.1 hr))
    rw [sortLL_len] at h1 ⊢
    have := Nat.mul_le_mul_right 1000 hl
    omega
  · simp [tot]

/-- The points that a block lacks. -/
def cmpR (P : Nat) (b : List Int) : List Int := minusL (idL P) b
theorem cmpR_eq {P : Nat} {b : List Int} (hP : P ≤ 32) (h : setB b (P : Int) = true) : cmpR P b = (idL P).filter (fun z => !hasB b z) :=
  minusL_eq (idL_set hP) (setB_more h (by omega) (by omega))
theorem cmpR_set {P : Nat} {b : List Int} (hP : P ≤ 32) (h : setB b (P : Int) = true) : setB (cmpR P b) (P : Int) = true := by
  rw [cmpR_eq hP h, setB_iff]
  refine ⟨filter_rise (setB_iff.1 (idL_set hP)).1 _, fun z hz => idL_mem.1 (List.mem_filter.1 hz).1, by omega, by omega⟩
theorem cmpR_nil {P : Nat} {b : List Int} (hP : P ≤ 32) (h : setB b (P : Int) = true) : (cmpR P b).length = 0 ↔ b.length = P := by
  rw [cmpR_eq hP h]
  have hb := setB_iff.1 h
  constructor
  · intro h0
    have h1 : ∀ z, z ∈ b ↔ z ∈ idL P := fun z => by
      refine ⟨fun hz => idL_mem.2 (hb.2.1 z hz), fun hz => ?_⟩
      have h2 := List.eq_nil_of_length_eq_zero h0
      by_cases h3 : z ∈ b
      · exact h3
      · have : z ∈ (idL P).filter (fun z => !hasB b z) := List.mem_filter.2 ⟨hz, by simp [hasB, h3]⟩
        rw [h2] at this
        simp at this
    rw [rise_ext hb.1 (setB_iff.1 (idL_set hP)).1 h1, idL_len]
  · intro h0
    have h1 := rise_full hb.1 (fun x hx => hb.2.1 x hx) h0
    rw [List.length_eq_zero_iff, List.filter_eq_nil_iff]
    intro z hz
    rw [h1]
    simp [hasB, hz]
def cdR (P : Nat) (xss : List (List Int)) : List (List Int) := xss.map (cmpR P)
def cdFull (P : Nat) (xss : List (List Int)) : Prop := ∃ k, k < xss.length ∧ (row xss k).length = P
instance (P : Nat) (xss : List (List Int)) : Decidable (cdFull P xss) := by unfold cdFull; infer_instance
def cdP (p : Int) (xss : List (List Int)) : Int := if dsgB p xss = true then (if cdFull p.toNat xss then 0 else mkP p (cdR p.toNat xss)) else 0
def cdX (p : Int) (xss : List (List Int)) : List (List Int) := if dsgB p xss = true then (if cdFull p.toNat xss then [] else mkL (cdR p.toNat xss)) else []
def cdC (p : Int) (xss : List (List Int)) : Int := if dsgB p xss = true then (if cdFull p.toNat xss then 6 else mkC (cdR p.toNat xss)) else 1
theorem ComplementDesign_small (p : Int) (xss : List (List Int)) : (cdX p xss).length ≤ 1048576 ∧ tot (cdX p xss) ≤ 1048576 := by
  unfold cdX
  split
  · split
    · simp [tot]
    · refine mk_small fun r hr => ?_
      unfold cdR at hr
      obtain ⟨b, _, rfl⟩ := List.mem_map.1 hr
      have := filtL_len (idL p.toNat) b (fun p q => p && !q)
      unfold cmpR minusL
      omega
  · simp [tot]
theorem cdR_take {P : Nat} {xss : List (List Int)} {k : Nat} (hk : k < xss.length) : (cdR P xss).take (k + 1) = (cdR P xss).take k ++ [cmpR P (row xss k)] := by
  have hk' : k < (cdR P xss).length := by unfold cdR; rw [List.length_map]; exact hk
  rw [List.take_add_one, List.getElem?_eq_getElem hk']
  congr 1
  simp [cdR, row_eq hk]
theorem cdR_len (P : Nat) (xss : List (List Int)) : (cdR P xss).length = xss.length := by simp [cdR]
theorem cdR_row {P : Nat} {xss : List (List Int)} {k : Nat} (hk : k < xss.length) : row (cdR P xss) k = cmpR P (row xss k) := by
  rw [row_eq (by rw [cdR_len]; exact hk), row_eq hk]; simp [cdR]
theorem cdR_blocks {P : Nat} {xss : List (List Int)} (hD : DsgOk (P : Int) xss) (hf : ¬ cdFull P xss) {k : Nat} (hk : k < xss.length) : blockB (row (cdR P xss) k) (P : Int) = true := by
  have hP : P ≤ 32 := by have := hD.1.2; omega
  have hs := blockB_set (hD.2.2 k hk).1
  rw [cdR_row hk]
  unfold blockB
  rw [cmpR_set hP hs, Bool.and_true, decide_eq_true_eq]
  rcases Nat.eq_zero_or_pos (cmpR P (row xss k)).length with h | h
  · exact absurd ⟨k, hk, (cmpR_nil hP hs).1 h⟩ hf
  · exact h
end Go.Proofs.YtmmkmkbpgcbehaaGreat
