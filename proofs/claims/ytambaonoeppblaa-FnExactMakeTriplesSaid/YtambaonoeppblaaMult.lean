/-
  MultipliersOf: the multipliers of a difference set, of both sides; slices.Equal, l00Same. Conditions: those of each theorem.
-/
import Derived.Test.YtambaonoeppblaaNorm
import Derived.Test.YtambaonoeppblaaFam
namespace Go.Proofs.Ytambaonoeppblaa
open Go.RowKit
set_option linter.unusedVariables false
set_option linter.unusedSimpArgs false

theorem RdM.lit1 {w : World} {A : Option Addr} {c n : Nat} {xs : List Int} (hr : RdI w A c xs) (hn : xs.length = n) : RdM (w.alloc (.cells #[.slice A n c] 32)) (some ⟨w.heap.size, 0, none⟩) 1 (fun _ => (A, c)) [xs] :=
  ⟨by simp, by unfold maxLen; omega, fun k hk => by
    obtain rfl : k = 0 := by simp at hk; omega
    refine ⟨w.heap.size, 0, rfl, by simp, ?_⟩
    show _ = some (Value.slice A xs.length c)
    rw [hn]
    simp [go_sem], fun k hk => by
    obtain rfl : k = 0 := by simp at hk; omega
    exact hr.below ((Below.refl _ _).alloc (Nat.le_refl _) _)⟩
theorem mv_set13 {N : Nat} {xs : List Int} (h : Set13 (N : Int) xs) (t b : Nat) : Set13 (N : Int) (mvL N xs (t : Int) (b : Int)) := by
  obtain ⟨⟨hN1, hN2⟩, hbd, _, _⟩ := set13_facts h
  refine ⟨h.1, rise_of (putsTo_rise _ _) fun z hz => ?_⟩
  obtain ⟨j, hj, e⟩ := putsTo_mem.1 hz
  have h1 := hbd j hj
  obtain ⟨u, hu⟩ : ∃ u : Nat, nth xs j = (u : Int) := ⟨(nth xs j).toNat, by omega⟩
  rw [mvF_nat hu] at e
  have := Nat.mod_lt (u * t + b) (show 0 < N by omega)
  omega

/-- t does not change the least translate. -/
def mulB (N : Nat) (xs : List Int) (t : Nat) : Bool := decide (Nat.gcd t N = 1 ∧ nmTo N (mvL N xs (t : Int) 0) N = nmTo N xs N)
def mulTo (N : Nat) (xs : List Int) (k : Nat) : List Int := ((List.range k).filter fun t => decide (1 ≤ t) && mulB N xs t).map fun (t : Nat) => (t : Int)
theorem mulTo_succ (N : Nat) (xs : List Int) {k : Nat} (hk : 1 ≤ k) : mulTo N xs (k + 1) = mulTo N xs k ++ if mulB N xs k = true then [(k : Int)] else [] := by
  unfold mulTo
  rw [List.range_succ, List.filter_append, List.map_append]
  congr 1
  rcases hb : mulB N xs k with _ | _
  · simp [hb]
  · simp [hb, hk]
theorem mulTo_one (N : Nat) (xs : List Int) : mulTo N xs 1 = [] := by simp [mulTo, List.range_succ]
theorem mulTo_len (N : Nat) (xs : List Int) (k : Nat) : (mulTo N xs k).length ≤ k := by
  unfold mulTo
  rw [List.length_map]
  exact Nat.le_trans (List.length_filter_le _ _) (by simp)
def mlOk (n : Int) (xs : List Int) : Prop := set13 n xs = true ∧ xs ≠ []
instance (n : Int) (xs : List Int) : Decidable (mlOk n xs) := by unfold mlOk; infer_instance
def mlL (n : Int) (xs : List Int) : List Int := if mlOk n xs ∧ 0 ≤ lamI n.toNat [xs] then mulTo n.toNat xs n.toNat else []
def mlC (n : Int) (xs : List Int) : Int := if mlOk n xs then (if 0 ≤ lamI n.toNat [xs] then 0 else 6) else 1
theorem MultipliersOf_small (n : Int) (xs : List Int) : (mlL n xs).length ≤ 1048576 := by
  unfold mlL
  split
  · next h =>
    have h1 := mulTo_len n.toNat xs n.toNat
    have h2 := (of_decide_eq_true h.1.1 : Set13 n xs).1
    omega
  · simp
theorem sets1 {N : Nat} {xs : List Int} (h : Set13 (N : Int) xs) (h0 : xs ≠ []) : SetsOk N [xs] := by
  have h1 := (set13_facts h).1
  refine ⟨h1.1, h1.2, fun i hi => ?_⟩
  obtain rfl : i = 0 := by simp at hi; omega
  exact ⟨h.2, List.length_pos_iff.2 h0⟩

end Go.Proofs.Ytambaonoeppblaa
