/-
  Permutations and the images of blocks as plain laws. No program in sight. Conditions: those of each theorem.
-/
import Derived.Test.YtmmkmkbpgcbehaaGreatCompP
namespace Go.Proofs.YtmmkmkbpgcbehaaGreat
open Go.RowKit
set_option linter.unusedVariables false
set_option linter.unusedSimpArgs false

/-- The image of a block. -/
def imF (p b : List Int) (i : Nat) : Int := nth p (nth b i).toNat
def imL (p b : List Int) : List Int := putsTo (imF p b) b.length
theorem im_sort {p b : List Int} (hp : sortL p = idL p.length) (hb : setB b (p.length : Int) = true) : imL p b = sortL ((List.range b.length).map (imF p b)) := by
  refine putsTo_sort fun i j hij hj e => ?_
  have hs := setB_iff.1 hb
  have h1 := hs.2.1 (nth b i) (mem_nth.2 ⟨i, by omega, rfl⟩)
  have h2 := hs.2.1 (nth b j) (mem_nth.2 ⟨j, hj, rfl⟩)
  have h3 : nth b i < nth b j := by
    rw [nth_eq hj, nth_eq (Nat.lt_trans hij hj)]
    exact List.pairwise_iff_getElem.1 hs.1 i j (Nat.lt_trans hij hj) hj hij
  exact (perm_facts hp).2 _ _ (by omega) (by omega) e
def rbR (p : List Int) (xss : List (List Int)) : List (List Int) := xss.map (imL p)
theorem rbR_len (p : List Int) (xss : List (List Int)) : (rbR p xss).length = xss.length := by simp [rbR]
theorem rbR_row {p : List Int} {xss : List (List Int)} {k : Nat} (hk : k < xss.length) : row (rbR p xss) k = imL p (row xss k) := by
  rw [row_eq (by rw [rbR_len]; exact hk), row_eq hk]; simp [rbR]
theorem rbR_take {p : List Int} {xss : List (List Int)} {k : Nat} (hk : k < xss.length) : (rbR p xss).take (k + 1) = (rbR p xss).take k ++ [imL p (row xss k)] := by
  have hk' : k < (rbR p xss).length := by rw [rbR_len]; exact hk
  rw [List.take_add_one, List.getElem?_eq_getElem hk']
  congr 1
  simp [rbR, row_eq hk]
theorem imL_len (p b : List Int) : (imL p b).length ≤ b.length := putsTo_len _ _
theorem imL_pos {p b : List Int} (h : 0 < b.length) : 0 < (imL p b).length := by
  have : imF p b 0 ∈ imL p b := putsTo_mem.2 ⟨0, h, rfl⟩
  exact List.length_pos_of_mem this
def rbOk (p : Int) (xss : List (List Int)) (q : List Int) : Int := if dsgB p xss = true ∧ permB q = true then (if (q.length : Int) = p then 0 else 6) else 1
def rbP (p : Int) (xss : List (List Int)) (q : List Int) : Int := if rbOk p xss q = 0 then p else 0
def rbX (p : Int) (xss : List (List Int)) (q : List Int) : List (List Int) := if rbOk p xss q = 0 then sortLL (rbR q xss) else []
theorem rbOk_zero {p : Int} {xss : List (List Int)} {q : List Int} (h : rbOk p xss q = 0) : dsgB p xss = true ∧ permB q = true ∧ (q.length : Int) = p := by
  unfold rbOk at h
  split at h
  · next h1 =>
    split at h
    · next h2 => exact ⟨h1.1, h1.2, h2⟩
    · omega
  · omega
theorem RelabelDesign_small (p : Int) (xss : List (List Int)) (q : List Int) : (rbX p xss q).length ≤ 1048576 ∧ tot (rbX p xss q) ≤ 1048576 := by
  unfold rbX
  split
  · next h =>
    obtain ⟨h1, h2, h3⟩ := rbOk_zero h
    have hD := dsgB_true.1 h1
    have hl : (rbR q xss).length ≤ 128 := by rw [rbR_len]; exact hD.2.1
    have := mk_small (xss := rbR q xss) fun r hr => by
      unfold rbR at hr
      obtain ⟨b, hb, rfl⟩ := List.mem_map.1 hr
      obtain ⟨k, hk, e⟩ := List.mem_iff_getElem.1 hb
      have h4 := blockB_set (hD.2.2 k hk).1
      rw [row_eq hk, e] at h4
      have := setB_len (P := 32) (setB_more h4 hD.1.2 (by omega))
      have := imL_len q b
      omega
    unfold mkL at this
    rwa [if_pos hl] at this
  · simp [tot]
end Go.Proofs.YtmmkmkbpgcbehaaGreat
