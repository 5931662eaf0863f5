/-
  The laws' helpers that bound and copy: szInt64S, szInt64SS, toInt64S, toInt64SS. Conditions: those of each theorem.
-/
import Derived.Test.YtbbaeopobnpnmaaLib2
namespace Go.Proofs.Ytbbaeopobnpnmaa
open Go.RowKit
set_option linter.unusedVariables false
set_option linter.unusedSimpArgs false

/-- Rows k < n: their lengths. -/
def AtL (w : World) (A : Option Addr) (n : Nat) (L : Nat → Nat) : Prop :=
  ∀ k, k < n → ∃ b off B C, A = some ⟨b, off, none⟩ ∧ w.cell? ⟨b, off + k, none⟩ = some (.slice B (L k) C) ∧ L k ≤ 9223372036854775807

theorem RdM.atL {w : World} {A : Option Addr} {c : Nat} {R : Spine} {xss : List (List Int)} (h : RdM w A c R xss) : AtL w A xss.length (fun k => (row xss k).length) := fun k hk => by
  obtain ⟨b, off, e, _, hc⟩ := h.at_ k hk
  exact ⟨b, off, _, _, e, hc, by show (row xss k).length ≤ _; have h1 := (h.rows k hk).le; have h2 := (h.rows k hk).cap; unfold maxLen at h2; omega⟩

theorem take_set_nth {xs : List Int} {k n : Nat} (h : k < xs.length) (hn : xs.length = n) :
    (xs.take k ++ List.replicate (n - k) 0).set k (nth xs k) = xs.take (k + 1) ++ List.replicate (n - (k + 1)) 0 := by
  have hk : (xs.take k).length = k := by simp; omega
  rw [List.set_append_right _ _ (by omega), hk, Nat.sub_self, show n - k = (n - (k + 1)) + 1 from by omega, List.replicate_succ, List.set_cons_zero, take_nth h, List.append_assoc]
  rfl
theorem take_set_row {xs : List (List Int)} {k n : Nat} (h : k < xs.length) (hn : xs.length = n) :
    (xs.take k ++ List.replicate (n - k) []).set k (row xs k) = xs.take (k + 1) ++ List.replicate (n - (k + 1)) [] := by
  have hk : (xs.take k).length = k := by simp; omega
  rw [List.set_append_right _ _ (by omega), hk, Nat.sub_self, show n - k = (n - (k + 1)) + 1 from by omega, List.replicate_succ, List.set_cons_zero, take_row h, List.append_assoc]
  rfl

theorem nth_rep {α : Type} {xs : List α} {k n : Nat} {d : α} (hk : k ≤ xs.length) (hn : xs.length = n) : (xs.take k ++ List.replicate (n - k) d).length = n := by simp; omega

end Go.Proofs.Ytbbaeopobnpnmaa
