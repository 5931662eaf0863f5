/-
  IsCyclicDesign as a plain law: the step of the points. No program in sight. Conditions: those of each theorem.
-/
import Derived.Test.YtdcegepkgcflpaaRelB
namespace Go.Proofs.Ytdcegepkgcflpaa
open Go.RowKit
set_option linter.unusedVariables false
set_option linter.unusedSimpArgs false

def stF (P : Nat) (x : Nat) : Int := (((x + 1) % P : Nat) : Int)
/-- The first k steps. -/
def stTo (P k : Nat) : List Int := (List.range k).map (stF P)
theorem stTo_len (P k : Nat) : (stTo P k).length = k := by simp [stTo]
theorem stTo_succ (P k : Nat) : stTo P (k + 1) = stTo P k ++ [stF P k] := by simp [stTo, List.range_succ]
theorem stTo_nth {P k x : Nat} (h : x < k) : nth (stTo P k) x = stF P x := by simp [nth, stTo, h]
/-- The points, the first k of them moved. -/
def stMv (P k : Nat) : List Int := (List.range P).map fun x => if x < k then stF P x else (x : Int)
theorem stMv_len (P k : Nat) : (stMv P k).length = P := by simp [stMv]
theorem stMv_zero (P : Nat) : stMv P 0 = idL P := by
  unfold stMv idL
  exact List.map_congr_left fun x _ => if_neg (by omega)
theorem stMv_all (P : Nat) : stMv P P = stTo P P := by
  unfold stMv stTo
  exact List.map_congr_left fun x hx => if_pos (List.mem_range.1 hx)
theorem stMv_nth {P k x : Nat} (h : x < P) (hk : k ≤ x) : nth (stMv P k) x = (x : Int) := by
  simp [nth, stMv, h]
  omega
theorem stMv_set {P k : Nat} (h : k < P) : (stMv P k).set k (stF P k) = stMv P (k + 1) := by
  apply List.ext_getElem
  · simp [stMv]
  · intro i h1 h2
    rw [List.getElem_set]
    simp only [stMv, List.getElem_map, List.getElem_range]
    by_cases e : k = i
    · subst e; rw [if_pos rfl, if_pos (by omega)]
    · rw [if_neg e]
      by_cases h3 : i < k
      · rw [if_pos h3, if_pos (by omega)]
      · rw [if_neg h3, if_neg (by omega)]
theorem st_perm {P : Nat} (hP : 1 ≤ P) : sortL (stTo P P) = idL (stTo P P).length := by
  rw [stTo_len]
  have hn : (stTo P P).Nodup := inj_nodup.1 fun i j hij hj e => by
    rw [stTo_len] at hj
    rw [stTo_nth (by omega), stTo_nth hj] at e
    unfold stF at e
    have e' : (i + 1) % P = (j + 1) % P := by omega
    rw [Nat.mod_eq_of_lt (show i + 1 < P by omega)] at e'
    rcases Nat.lt_or_ge (j + 1) P with h | h
    · rw [Nat.mod_eq_of_lt h] at e'
      omega
    · rw [show j + 1 = P by omega, Nat.mod_self] at e'
      omega
  refine rise_full (sortL_rise hn) (fun x hx => ?_) (by rw [sortL_len, stTo_len])
  obtain ⟨k, hk, e⟩ := mem_nth.1 (sortL_mem.1 hx)
  rw [stTo_len] at hk
  rw [stTo_nth hk] at e
  have := Nat.mod_lt (k + 1) (show 0 < P by omega)
  rw [← e]
  unfold stF
  omega
theorem stF_tmod (P x : Nat) : ((x : Int) + 1).tmod (P : Int) = stF P x := by
  unfold stF
  exact tmod_nat (x + 1) P
/-- Whether the step leaves the blocks as they are. -/
def cyB (p : Int) (xss : List (List Int)) : Bool := dsgB p xss && decide (sortLL (rbR (stTo p.toNat p.toNat) xss) = xss)
end Go.Proofs.Ytdcegepkgcflpaa
