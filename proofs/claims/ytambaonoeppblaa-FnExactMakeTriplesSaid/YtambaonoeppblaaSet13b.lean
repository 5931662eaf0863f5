/-
  TranslateSet and MultiplySet of both. Conditions: those of each theorem.
-/
import Derived.Test.YtambaonoeppblaaSet13
import Derived.Test.YtambaonoeppblaaDsg
namespace Go.Proofs.Ytambaonoeppblaa
open Go.RowKit
set_option linter.unusedVariables false
set_option linter.unusedSimpArgs false

theorem mod_lt_eq {N d : Nat} (h : d % N = 0) (hd : d < N) : d = 0 := by rw [Nat.mod_eq_of_lt hd] at h; exact h
theorem mvF_nat {N : Nat} {xs : List Int} {t b k u : Nat} (hu : nth xs k = (u : Int)) : mvF N xs (t : Int) (b : Int) k = (((u * t + b) % N : Nat) : Int) := by
  unfold mvF
  rw [hu, ← tmod_nat, Int.natCast_add, Int.natCast_mul]
theorem mv_inj {N : Nat} {xs : List Int} (h : Set13 (N : Int) xs) {t b : Nat} (hc : Nat.gcd t N = 1) {i j : Nat} (hij : i < j) (hj : j < xs.length) : mvF N xs (t : Int) (b : Int) i ≠ mvF N xs (t : Int) (b : Int) j := by
  obtain ⟨⟨hN1, hN2⟩, hbd, hlt, _⟩ := set13_facts h
  have h1 := hbd i (by omega)
  have h2 := hbd j hj
  have h3 := hlt i j hij hj
  obtain ⟨u, hu⟩ : ∃ u : Nat, nth xs i = (u : Int) := ⟨(nth xs i).toNat, by omega⟩
  obtain ⟨v, hv⟩ : ∃ v : Nat, nth xs j = (v : Int) := ⟨(nth xs j).toNat, by omega⟩
  rw [mvF_nat hu, mvF_nat hv]
  intro e
  have e' : (u * t + b) % N = (v * t + b) % N := by exact_mod_cast e
  have h4 := Nat.sub_mod_eq_zero_of_mod_eq e'.symm
  have h5 : v * t + b - (u * t + b) = (v - u) * t := by rw [Nat.sub_mul]; omega
  rw [h5] at h4
  have h6 : N ∣ (v - u) * t := Nat.dvd_of_mod_eq_zero h4
  have h7 : N ∣ v - u := Nat.Coprime.dvd_of_dvd_mul_right (by unfold Nat.Coprime; rw [Nat.gcd_comm]; exact hc) h6
  have h8 := Nat.le_of_dvd (by omega) h7
  omega
theorem mv_sort {N : Nat} {xs : List Int} (h : Set13 (N : Int) xs) {t b : Nat} (hc : Nat.gcd t N = 1) : sortL ((List.range xs.length).map (mvF N xs (t : Int) (b : Int))) = mvL N xs (t : Int) (b : Int) :=
  (putsTo_sort fun _ _ hij hj => mv_inj h hc hij hj).symm
theorem mvL_len (N : Nat) (xs : List Int) (t b : Int) : (mvL N xs t b).length ≤ xs.length := putsTo_len _ _

def askC (n : Int) (xs : List Int) (b : Int) : Int := if set13 n xs = false then 1 else if inB b 0 (n - 1) = false then 2 else 0
end Go.Proofs.Ytambaonoeppblaa
