/-
  DerivedDesign and ResidualDesign as plain laws: the places of a block's points. No program in sight. Conditions: those of each theorem.
-/
import Derived.Test.YtdneldecedbepaaCompP
namespace Go.Proofs.Ytdneldecedbepaa
open Go.RowKit
set_option linter.unusedVariables false
set_option linter.unusedSimpArgs false

/-- The places of pts, below k, whose number lies in xs. -/
def plcTo (xs pts : List Int) (k : Nat) : List Int := ((List.range k).filter (fun i => hasB xs (nth pts i))).map fun (i : Nat) => (i : Int)
def plcL (xs pts : List Int) : List Int := plcTo xs pts pts.length
theorem plcTo_succ (xs pts : List Int) (k : Nat) : plcTo xs pts (k + 1) = plcTo xs pts k ++ if hasB xs (nth pts k) = true then [(k : Int)] else [] := by
  unfold plcTo
  rw [List.range_succ, List.filter_append, List.map_append]
  by_cases h : hasB xs (nth pts k) = true <;> simp [List.filter_cons, h]
theorem plcTo_len (xs pts : List Int) (k : Nat) : (plcTo xs pts k).length ≤ k := by
  unfold plcTo
  have := List.length_filter_le (fun i => hasB xs (nth pts i)) (List.range k)
  simp at *
  omega
theorem plcL_len (xs pts : List Int) : (plcL xs pts).length ≤ pts.length := plcTo_len _ _ _
theorem plcTo_rise (xs pts : List Int) (k : Nat) : (plcTo xs pts k).Pairwise (· < ·) := by
  unfold plcTo
  rw [List.pairwise_map]
  refine List.Pairwise.filter _ ?_
  refine List.Pairwise.imp ?_ List.pairwise_lt_range
  intro a b h
  omega
theorem plcTo_mem {xs pts : List Int} {k : Nat} {z : Int} (h : z ∈ plcTo xs pts k) : 0 ≤ z ∧ z < (k : Int) := by
  unfold plcTo at h
  obtain ⟨i, hi, rfl⟩ := List.mem_map.1 h
  have := List.mem_range.1 (List.mem_filter.1 hi).1
  omega
theorem plcL_block {xs pts : List Int} (h1 : pts.length ≤ 32) (h2 : ¬ (plcL xs pts).length = 0) : blockB (plcL xs pts) (pts.length : Int) = true := by
  unfold blockB
  rw [Bool.and_eq_true, decide_eq_true_eq]
  refine ⟨by omega, setB_iff.2 ⟨plcTo_rise _ _ _, fun z hz => plcTo_mem hz, by omega, by omega⟩⟩
theorem rise_nth {xs : List Int} (h : xs.Pairwise (· < ·)) {i j : Nat} (hij : i < j) (hj : j < xs.length) : nth xs i < nth xs j := by
  rw [nth_eq hj, nth_eq (Nat.lt_trans hij hj)]
  exact List.pairwise_iff_getElem.1 h i j (Nat.lt_trans hij hj) hj hij
theorem first_own {pts : List Int} (h : pts.Pairwise (· < ·)) {i : Nat} (hi : i < pts.length) : firstIdx (idxB pts (nth pts i)) pts.length = (i : Int) := by
  refine firstIdx_hit hi ?_ fun j hj => ?_
  · unfold idxB; simp
  · unfold idxB
    have := rise_nth h hj hi
    exact decide_eq_false (by omega)
/-- Where the first k numbers of ms lie in pts. -/
def ixTo (pts ms : List Int) (k : Nat) : List Int := (ms.take k).map fun x => firstIdx (idxB pts x) pts.length
theorem ixTo_succ {pts ms : List Int} {k : Nat} (hk : k < ms.length) : ixTo pts ms (k + 1) = ixTo pts ms k ++ [firstIdx (idxB pts (nth ms k)) pts.length] := by
  unfold ixTo
  rw [List.take_add_one, List.getElem?_eq_getElem hk, nth_eq hk, List.map_append]
  rfl
theorem ixTo_len {pts ms : List Int} {k : Nat} (hk : k ≤ ms.length) : (ixTo pts ms k).length = k := by
  unfold ixTo
  rw [List.length_map, List.length_take]
  omega
theorem ix_all {xs pts : List Int} (hx : setB xs 32 = true) (hp : setB pts 32 = true) : ixTo pts (meetL xs pts) (meetL xs pts).length = plcL xs pts := by
  unfold ixTo
  rw [List.take_length, meetL_eq hx hp]
  have h : pts.filter (hasB xs) = ((List.range pts.length).filter (fun i => hasB xs (nth pts i))).map (nth pts) := by
    refine (congrArg (List.filter (hasB xs)) (nth_range (xs := pts))).symm.trans ?_
    rw [List.filter_map]
    rfl
  rw [h, List.map_map]
  unfold plcL plcTo
  refine List.map_congr_left fun i hi => ?_
  exact first_own (setB_iff.1 hp).1 (List.mem_range.1 (List.mem_filter.1 hi).1)
theorem meet_nil {xs pts : List Int} (hx : setB xs 32 = true) (hp : setB pts 32 = true) : (meetL xs pts).length = (plcL xs pts).length := by
  rw [← ix_all hx hp, ixTo_len (Nat.le_refl _)]

/-- The rows but the one at j, as places of pts. -/
def ptR (xss : List (List Int)) (j : Int) (pts : List Int) (k : Nat) : List (List Int) := ((List.range k).filter (fun (i : Nat) => !decide ((i : Int) = j))).map fun i => plcL (row xss i) pts
theorem ptR_hit {xss : List (List Int)} {j : Int} {pts : List Int} {k : Nat} (h : (k : Int) = j) : ptR xss j pts (k + 1) = ptR xss j pts k := by
  unfold ptR
  rw [List.range_succ, List.filter_append, List.map_append]
  simp [List.filter_cons, h]
theorem ptR_miss {xss : List (List Int)} {j : Int} {pts : List Int} {k : Nat} (h : (k : Int) ≠ j) : ptR xss j pts (k + 1) = ptR xss j pts k ++ [plcL (row xss k) pts] := by
  unfold ptR
  rw [List.range_succ, List.filter_append, List.map_append]
  simp [List.filter_cons, h]
theorem ptR_len (xss : List (List Int)) (j : Int) (pts : List Int) (k : Nat) : (ptR xss j pts k).length ≤ k := by
  unfold ptR
  have := List.length_filter_le (fun (i : Nat) => !decide ((i : Int) = j)) (List.range k)
  rw [List.length_map]
  rw [List.length_range] at this
  exact this
theorem ptR_mem {xss : List (List Int)} {j : Int} {pts : List Int} {k : Nat} {r : List Int} (h : r ∈ ptR xss j pts k) : ∃ i, i < k ∧ (i : Int) ≠ j ∧ r = plcL (row xss i) pts := by
  unfold ptR at h
  obtain ⟨i, hi, rfl⟩ := List.mem_map.1 h
  obtain ⟨h1, h2⟩ := List.mem_filter.1 hi
  exact ⟨i, List.mem_range.1 h1, by simpa using h2, rfl⟩
def ptBad (xss : List (List Int)) (j : Int) (pts : List Int) : Prop := pts.length = 0 ∨ ∃ i, i < xss.length ∧ ((i : Int) ≠ j ∧ (plcL (row xss i) pts).length = 0)
instance (xss : List (List Int)) (j : Int) (pts : List Int) : Decidable (ptBad xss j pts) := by unfold ptBad; infer_instance
def ptP (xss : List (List Int)) (j : Int) (pts : List Int) : Int := if ptBad xss j pts then 0 else mkP (pts.length : Int) (ptR xss j pts xss.length)
def ptX (xss : List (List Int)) (j : Int) (pts : List Int) : List (List Int) := if ptBad xss j pts then [] else mkL (ptR xss j pts xss.length)
def ptC (xss : List (List Int)) (j : Int) (pts : List Int) : Int := if ptBad xss j pts then 6 else mkC (ptR xss j pts xss.length)
theorem pt_row_mem {xss : List (List Int)} {j : Int} {pts : List Int} {k q : Nat} (hq : q < (ptR xss j pts k).length) : ∃ i, i < k ∧ (i : Int) ≠ j ∧ row (ptR xss j pts k) q = plcL (row xss i) pts := by
  rw [row_eq hq]
  exact ptR_mem (List.getElem_mem hq)
theorem pt_blocks {xss : List (List Int)} {j : Int} {pts : List Int} (h1 : pts.length ≤ 32) (hb : ¬ ptBad xss j pts) {q : Nat} (hq : q < (ptR xss j pts xss.length).length) : blockB (row (ptR xss j pts xss.length) q) (pts.length : Int) = true := by
  obtain ⟨i, hi, hj, e⟩ := pt_row_mem hq
  rw [e]
  exact plcL_block h1 fun h0 => hb (Or.inr ⟨i, hi, hj, h0⟩)

/-- The code of a block's number. -/
def hbC (p : Int) (xss : List (List Int)) (j : Int) : Int := if dsgB p xss = true then (if inB j 0 ((xss.length : Int) - 1) = true then 0 else 2) else 1
theorem hbC_zero {p : Int} {xss : List (List Int)} {j : Int} (h : hbC p xss j = 0) : dsgB p xss = true ∧ 0 ≤ j ∧ j < (xss.length : Int) := by
  unfold hbC at h
  split at h
  · next h1 =>
    split at h
    · next h2 =>
      have := inB_true.1 h2
      exact ⟨h1, by omega, by omega⟩
    · omega
  · omega
def atP (p : Int) (xss : List (List Int)) (j : Int) (pts : List Int) : Int := if hbC p xss j = 0 then ptP xss j pts else 0
def atX (p : Int) (xss : List (List Int)) (j : Int) (pts : List Int) : List (List Int) := if hbC p xss j = 0 then ptX xss j pts else []
def atC (p : Int) (xss : List (List Int)) (j : Int) (pts : List Int) : Int := if hbC p xss j = 0 then ptC xss j pts else hbC p xss j
theorem at_small (p : Int) (xss : List (List Int)) (j : Int) (pts : List Int) (h : hbC p xss j = 0 → pts.length ≤ 1000) : (atX p xss j pts).length ≤ 1048576 ∧ tot (atX p xss j pts) ≤ 1048576 := by
  unfold atX
  split
  · next h0 =>
    unfold ptX
    split
    · simp [tot]
    · refine mk_small fun r hr => ?_
      obtain ⟨i, _, _, rfl⟩ := ptR_mem hr
      have := plcL_len (row xss i) pts
      have := h h0
      omega
  · simp [tot]
def drP (p : Int) (xss : List (List Int)) (j : Int) : Int := atP p xss j (row xss j.toNat)
def drX (p : Int) (xss : List (List Int)) (j : Int) : List (List Int) := atX p xss j (row xss j.toNat)
def drC (p : Int) (xss : List (List Int)) (j : Int) : Int := atC p xss j (row xss j.toNat)
def rdP (p : Int) (xss : List (List Int)) (j : Int) : Int := atP p xss j (cmpR p.toNat (row xss j.toNat))
def rdX (p : Int) (xss : List (List Int)) (j : Int) : List (List Int) := atX p xss j (cmpR p.toNat (row xss j.toNat))
def rdC (p : Int) (xss : List (List Int)) (j : Int) : Int := atC p xss j (cmpR p.toNat (row xss j.toNat))
theorem hb_row {p : Int} {xss : List (List Int)} {j : Int} (h : hbC p xss j = 0) : setB (row xss j.toNat) p = true ∧ p ≤ 32 ∧ 0 ≤ p := by
  obtain ⟨h1, h2, h3⟩ := hbC_zero h
  have hD := dsgB_true.1 h1
  exact ⟨blockB_set (hD.2.2 _ (by omega)).1, hD.1.2, by have := hD.1.1; omega⟩
theorem DerivedDesign_small (p : Int) (xss : List (List Int)) (j : Int) : (drX p xss j).length ≤ 1048576 ∧ tot (drX p xss j) ≤ 1048576 :=
  at_small _ _ _ _ fun h => by
    obtain ⟨h1, h2, h3⟩ := hb_row h
    have := setB_len (P := 32) (setB_more h1 h2 (by omega))
    omega
theorem ResidualDesign_small (p : Int) (xss : List (List Int)) (j : Int) : (rdX p xss j).length ≤ 1048576 ∧ tot (rdX p xss j) ≤ 1048576 :=
  at_small _ _ _ _ fun h => by
    have := filtL_len (idL p.toNat) (row xss j.toNat) (fun p q => p && !q)
    unfold cmpR minusL
    omega
end Go.Proofs.Ytdneldecedbepaa
