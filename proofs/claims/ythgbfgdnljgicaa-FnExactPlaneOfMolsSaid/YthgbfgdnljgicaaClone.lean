/-
  slices.Clone of a list of int64. Conditions: those of each theorem.
-/
import Derived.Test.YthgbfgdnljgicaaNext
namespace Go.Proofs.Ythgbfgdnljgicaa
open Go.RowKit
set_option linter.unusedVariables false
set_option linter.unusedSimpArgs false

theorem Clone_n (w : World) (A : Option Addr) (n c : Nat) (xs : List Int) (hr : RdI w A c xs) (hn : xs.length = n) (hz : n ≤ 1048576) :
    Calls Try.prog 49 #[.slice A n c] w (PostS w xs) := by
  rcases A with _ | p
  · have hx : xs = [] := by
      rcases Nat.eq_zero_or_pos xs.length with h | h
      · exact List.eq_nil_of_length_eq_zero h
      · obtain ⟨_, _, e, _⟩ := hr.at_ 0 h; cases e
    subst hx
    have hq : ∀ (w : World) (a : Option Addr) (n c n' c' : Nat), (binOp .eql 35 (.slice a n c) (.slice none n' c')).run Try.prog w = .ok (.bool a.isNone) w := fun w a n c n' c' => Lib.run_eql_slice_nil w _ _ a n c n' c' Try.underlying35
    clear hr hn
    go_enter Try.func49, Try.ntmps49
    go_wp2
    go_ret
    exact ⟨⟨none, 0, 0, rfl, rfl, OwnI.nil_ _ _⟩, Below.refl _ _⟩
  · have H0 := Lib.hid (OwnI.lit0 w (Nat.le_refl w.heap.size))
    have HR := Lib.hid (hr.below ((Below.refl w.heap.size w).alloc (Nat.le_refl _) (.cells #[] 2)))
    have HN := Lib.hid hn
    have hq : ∀ (w : World) (a : Option Addr) (n c n' c' : Nat), (binOp .eql 35 (.slice a n c) (.slice none n' c')).run Try.prog w = .ok (.bool a.isNone) w := fun w a n c n' c' => Lib.run_eql_slice_nil w _ _ a n c n' c' Try.underlying35
    clear hr hn
    go_enter Try.func49, Try.ntmps49
    go_wp2_with (at_builtin
                 refine wpI_appendL rfl _ _ rfl w.heap.size _ _ 0 [] (some p) n c xs rfl rfl rfl HN.out H0.out HR.out (fun e => nomatch e) (by omega) (by simp) ?_
                 intro A' c' w' ho hg ha)
    have HO := Lib.hid ho
    have hB : Below w.heap.size w w' := ((Below.refl _ _).alloc (Nat.le_refl _) _).trans (below_blk H0.out hg (Nat.le_refl _) (by simp))
    clear ho hg ha
    go_wp2
    go_ret
    exact ⟨⟨A', _, c', rfl, by rw [HN.out], HO.out⟩, hB⟩

end Go.Proofs.Ythgbfgdnljgicaa
