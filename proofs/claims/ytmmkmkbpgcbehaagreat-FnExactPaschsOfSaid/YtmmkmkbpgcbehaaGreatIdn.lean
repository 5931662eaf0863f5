/-
  identity of the program. Conditions: none.
-/
import Derived.Test.YtmmkmkbpgcbehaaGreatMat
namespace Go.Proofs.YtmmkmkbpgcbehaaGreat
open Go.RowKit
set_option linter.unusedVariables false
set_option linter.unusedSimpArgs false

def idL (n : Nat) : List Int := (List.range n).map fun (i : Nat) => (i : Int)
theorem idL_len (n : Nat) : (idL n).length = n := by simp [idL]
def idTo (n k : Nat) : List Int := (List.range n).map fun (i : Nat) => if i < k then (i : Int) else 0
theorem idTo_len (n k : Nat) : (idTo n k).length = n := by simp [idTo]
theorem idTo_zero (n : Nat) : idTo n 0 = List.replicate n 0 := by
  apply List.ext_getElem
  · simp [idTo]
  · intro k h1 h2; simp [idTo]
theorem idTo_set {n k : Nat} (hk : k < n) : (idTo n k).set k (k : Int) = idTo n (k + 1) := by
  apply List.ext_getElem
  · simp [idTo]
  · intro j h1 h2
    rw [List.getElem_set]
    simp only [idTo, List.getElem_map, List.getElem_range]
    by_cases e : k = j
    · subst e; rw [if_pos rfl, if_pos (by omega)]
    · rw [if_neg e]
      by_cases h : j < k
      · rw [if_pos h, if_pos (by omega)]
      · rw [if_neg h, if_neg (by omega)]
theorem idTo_all (n : Nat) : idTo n n = idL n := by
  unfold idTo idL
  exact List.map_congr_left fun i hi => if_pos (List.mem_range.1 hi)

set_option maxHeartbeats 1000000 in
theorem identity_c (w : World) (n : Nat) (hn : n ≤ 1048576) : Calls Tryz.prog 37 #[.int .i64 (n : Int)] w (PostS w (idL n)) := by
  have hmk := fun W : World => run_make_row' (P := Tryz.prog) 35 2 (.int .i64 0) 8 Tryz.underlying35 infoI rfl .i64 .i64 n (by omega) (by omega) W
  have HO0 := Lib.hid (show OwnI (w.alloc (.cells (madeCells #[.int .i64 0] n) 2)) w.heap.size (some ⟨w.heap.size, 0, none⟩) n (idTo n 0) by rw [idTo_zero]; exact OwnI.made w n (by unfold maxLen; omega) (Nat.le_refl _))
  have HB0 := Lib.hid ((Below.refl w.heap.size w).alloc (Nat.le_refl _) (.cells (madeCells #[.int .i64 0] n) 2))
  go_enter Tryz.func37, Tryz.ntmps37
  go_wp2
  obtain ⟨g, hg⟩ : ∃ g, g = w.heap.size := ⟨_, rfl⟩
  have hgl : w.heap.size ≤ g := by omega
  rw [← hg]
  have HO1 := Lib.hid (show OwnI (w.alloc (.cells (madeCells #[.int .i64 0] n) 2)) w.heap.size (some ⟨g, 0, none⟩) n (idTo n 0) by rw [hg]; exact HO0.out)
  clear hg hmk HO0
  generalize (w.alloc (.cells (madeCells #[.int .i64 0] n) 2)) = w1 at *
  go_loopw [9] (fun i wr => ∃ k : Nat, k ≤ n ∧ i = .int .i64 k ∧ Hid (OwnI wr w.heap.size (some ⟨g, 0, none⟩) n (idTo n k)) ∧ Hid (Below w.heap.size w wr)) (fun i _ => n - (intOf i).toNat)
  case atStart => exact ⟨0, Nat.zero_le _, rfl, HO1, HB0⟩
  case round =>
    obtain ⟨k, hk, rfl, HO, HB⟩ := hrel
    by_cases hlt : k < n
    · obtain ⟨g1, e1, _, _, hc, hf⟩ := HO.out.at_ (k := k) (by rw [idTo_len]; exact hlt)
      injection e1 with e1
      injection e1 with e1
      subst e1
      have hst := HO.out.stored k (k : Int)
      rw [idTo_set hlt] at hst
      have HO2 := Lib.hid hst
      have HB2 := Lib.hid (HB.out.setCell (p := ⟨g, k, none⟩) hgl (.int .i64 (k : Int)))
      have hk0 : (0 : Int) ≤ (k : Int) := by omega
      have hk1 : (k : Int) < (n : Int) := by omega
      clear hst
      go_wp2
      go_roundw
      case rel => exact ⟨k + 1, by omega, by go_num, HO2, HB2⟩
      case measure => simp [intOf]; omega
    · obtain rfl : k = n := by omega
      have HL := Lib.hid (idL_len k)
      have HOf := Lib.hid (show OwnI wr w.heap.size (some ⟨g, 0, none⟩) k (idL k) by rw [← idTo_all]; exact HO.out)
      go_wp2
      go_ret
      exact ⟨⟨_, k, k, rfl, HL.out, HOf.out⟩, HB.out⟩
end Go.Proofs.YtmmkmkbpgcbehaaGreat
