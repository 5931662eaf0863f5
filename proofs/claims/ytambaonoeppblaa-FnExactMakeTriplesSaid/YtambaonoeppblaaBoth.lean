/-
  MeetSets, MinusSets and l10All of the reference, allPoints of the program. Conditions: those of each theorem.
-/
import Derived.Test.YtambaonoeppblaaPairsP
import Derived.Test.YtambaonoeppblaaRes
namespace Go.Proofs.Ytambaonoeppblaa
open Go.RowKit
set_option linter.unusedVariables false
set_option linter.unusedSimpArgs false

/-- The first k numbers that pass. -/
def fiTo (f : Int → Bool) (xs : List Int) (k : Nat) : List Int := (xs.take k).filter f
theorem fiTo_succ {f : Int → Bool} {xs : List Int} {k : Nat} (hk : k < xs.length) : fiTo f xs (k + 1) = fiTo f xs k ++ if f (nth xs k) = true then [nth xs k] else [] := by
  unfold fiTo
  rw [List.take_add_one, List.getElem?_eq_getElem hk, List.filter_append, nth_eq hk]
  by_cases h : f xs[k] = true <;> simp [List.filter_cons, h]
theorem fiTo_len (f : Int → Bool) (xs : List Int) (k : Nat) : (fiTo f xs k).length ≤ k := by
  have h1 : (fiTo f xs k).length ≤ (xs.take k).length := List.length_filter_le _ _
  have h2 : (xs.take k).length ≤ k := List.length_take_le _ _
  omega
theorem fiTo_all (f : Int → Bool) (xs : List Int) : fiTo f xs xs.length = xs.filter f := by unfold fiTo; rw [List.take_length]

theorem idL_succ (k : Nat) : idL (k + 1) = idL k ++ [(k : Int)] := by unfold idL; rw [List.range_succ, List.map_append]; rfl
theorem idL_set {P : Nat} (h : P ≤ 32) : setB (idL P) 32 = true := by
  rw [setB_iff]
  refine ⟨?_, fun z hz => ?_, by omega, by omega⟩
  · unfold idL
    rw [List.pairwise_map]
    exact List.pairwise_lt_range.imp (fun h => by omega)
  · unfold idL at hz
    obtain ⟨k, hk, rfl⟩ := List.mem_map.1 hz
    have := List.mem_range.1 hk
    omega
end Go.Proofs.Ytambaonoeppblaa
