/-
  Flags that say what a list holds. Conditions: those of each theorem.
-/
import Derived.Test.YthgbfgdnljgicaaBools
import Derived.Test.YthgbfgdnljgicaaHas
namespace Go.Proofs.Ythgbfgdnljgicaa
set_option linter.unusedVariables false
set_option linter.unusedSimpArgs false

theorem flag_set (bs : List Bool) (j z : Nat) (hj : j < bs.length) : flag (bs.set j true) z = (decide (z = j) || flag bs z) := by
  unfold flag
  by_cases e : z = j
  · subst e; rw [List.getElem?_set_self hj]; simp
  · rw [List.getElem?_set_ne (by omega)]; simp [e]
theorem hasB_snoc (L : List Int) (j z : Nat) : hasB (L ++ [(j : Int)]) (z : Int) = (decide (z = j) || hasB L (z : Int)) := by
  rw [Bool.eq_iff_iff, hasB_true, Bool.or_eq_true, decide_eq_true_eq, hasB_true, List.mem_append, List.mem_singleton]
  constructor
  · rintro (h | h)
    · exact .inr h
    · exact .inl (by omega)
  · rintro (h | h)
    · exact .inr (by omega)
    · exact .inl h
/-- The flags are those of a list. -/
def FlagsOf (P : Nat) (bs : List Bool) (L : List Int) : Prop := bs.length = P ∧ ∀ z, z < P → flag bs z = hasB L (z : Int)
theorem FlagsOf.snoc {P : Nat} {bs : List Bool} {L : List Int} (h : FlagsOf P bs L) {j : Nat} (hj : j < P) : FlagsOf P (bs.set j true) (L ++ [(j : Int)]) :=
  ⟨by rw [List.length_set]; exact h.1, fun z hz => by rw [flag_set _ _ _ (by rw [h.1]; exact hj), hasB_snoc, h.2 z hz]⟩
theorem FlagsOf.zero (P : Nat) : FlagsOf P (List.replicate P false) [] := ⟨by simp, fun z hz => by
  unfold flag hasB
  simp [hz]⟩

end Go.Proofs.Ythgbfgdnljgicaa
