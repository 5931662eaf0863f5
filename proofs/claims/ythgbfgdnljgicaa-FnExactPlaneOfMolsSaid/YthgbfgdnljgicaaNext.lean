/-
  NextSubset of the program: the next set of the same size, and slices.Clone at []int64. Conditions: those of each theorem.
-/
import Derived.Test.YthgbfgdnljgicaaRise
import Derived.Test.YthgbfgdnljgicaaMat
import Derived.Lib.SliceRun
namespace Go.Proofs.Ythgbfgdnljgicaa
open Go.RowKit
set_option linter.unusedVariables false
set_option linter.unusedSimpArgs false

set_option maxHeartbeats 400000 in
set_option maxRecDepth 100000 in
theorem Clone_c (w : World) (b off n c : Nat) (xs : List Int) (hr : RdI w (some ⟨b, off, none⟩) c xs) (hn : xs.length = n) (hz : n ≤ 1048576) :
    Calls Try.prog 49 #[.slice (some ⟨b, off, none⟩) n c] w (PostS w xs) := by
  have H0 := Lib.hid (OwnI.lit0 w (Nat.le_refl w.heap.size))
  have HR := Lib.hid (hr.below ((Below.refl w.heap.size w).alloc (Nat.le_refl _) (.cells #[] 2)))
  have HN := Lib.hid hn
  have hq : ∀ (w : World) (a : Option Addr) (n c n' c' : Nat), (binOp .eql 35 (.slice a n c) (.slice none n' c')).run Try.prog w = .ok (.bool a.isNone) w := fun w a n c n' c' => Lib.run_eql_slice_nil w _ _ a n c n' c' Try.underlying35
  clear hr hn
  go_enter Try.func49, Try.ntmps49
  go_wp2_with (at_builtin
               refine wpI_appendL rfl _ _ rfl w.heap.size _ _ 0 [] (some ⟨b, off, none⟩) n c xs rfl rfl rfl HN.out H0.out HR.out (fun e => nomatch e) (by omega) (by simp) ?_
               intro A' c' w' ho hg ha)
  have HO := Lib.hid ho
  have hB : Below w.heap.size w w' := ((Below.refl _ _).alloc (Nat.le_refl _) _).trans (below_blk H0.out hg (Nat.le_refl _) (by simp))
  clear ho hg ha
  go_wp2
  go_ret
  exact ⟨⟨A', _, c', rfl, by rw [HN.out], HO.out⟩, hB⟩

/-- xs below i, then rising by one from xs[i] + 1, m of them set. -/
def nxL (xs : List Int) (i : Nat) : Nat → List Int
  | 0 => xs
  | m + 1 => (nxL xs i m).set (i + m) (nth xs i + 1 + m)
theorem nxL_len (xs : List Int) (i m : Nat) : (nxL xs i m).length = xs.length := by
  induction m with
  | zero => rfl
  | succ m ih => rw [nxL, List.length_set, ih]

/-- The place of the element that rises: the last with room. -/
def NxAt (n : Int) (xs : List Int) (i : Nat) : Prop := i < xs.length ∧ nth xs i ≠ n - xs.length + i ∧ ∀ t, i < t → t < xs.length → nth xs t = n - xs.length + t
def NxEnd (n : Int) (xs : List Int) : Prop := ∀ t, t < xs.length → nth xs t = n - xs.length + t
def PostNx (w : World) (n : Int) (xs : List Int) (e : Ending) (w' : World) : Prop :=
  ((∃ i A c, NxAt n xs i ∧ e = .returned (.tuple #[.slice A xs.length c, .bool true]) ∧ OwnI w' w.heap.size A c (nxL xs i (xs.length - i))) ∨ (NxEnd n xs ∧ e = .returned (.tuple #[.slice none 0 0, .bool false]))) ∧ Below w.heap.size w w'

end Go.Proofs.Ythgbfgdnljgicaa
