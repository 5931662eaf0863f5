/-
  NormalSet: the least translate of a set, of both sides. Conditions: those of each theorem.
-/
import Derived.Test.YtambaonoeppblaaSet13c
import Derived.Test.YtambaonoeppblaaNext
namespace Go.Proofs.Ytambaonoeppblaa
open Go.RowKit
set_option linter.unusedVariables false
set_option linter.unusedSimpArgs false

theorem Clone_n (w : World) (A : Option Addr) (n c : Nat) (xs : List Int) (hr : RdI w A c xs) (hn : xs.length = n) (hz : n ≤ 1048576) :
    Calls Try.prog 69 #[.slice A n c] w (PostS w xs) := by
  rcases A with _ | p
  · have hx : xs = [] := by
      rcases Nat.eq_zero_or_pos xs.length with h | h
      · exact List.eq_nil_of_length_eq_zero h
      · obtain ⟨_, _, e, _⟩ := hr.at_ 0 h; cases e
    subst hx
    have hq : ∀ (w : World) (a : Option Addr) (n c n' c' : Nat), (binOp .eql 32 (.slice a n c) (.slice none n' c')).run Try.prog w = .ok (.bool a.isNone) w := fun w a n c n' c' => Lib.run_eql_slice_nil w _ _ a n c n' c' Try.underlying32
    clear hr hn
    go_enter Try.func69, Try.ntmps69
    go_wp2
    go_ret
    exact ⟨⟨none, 0, 0, rfl, rfl, OwnI.nil_ _ _⟩, Below.refl _ _⟩
  · have H0 := Lib.hid (OwnI.lit0 w (Nat.le_refl w.heap.size))
    have HR := Lib.hid (hr.below ((Below.refl w.heap.size w).alloc (Nat.le_refl _) (.cells #[] 2)))
    have HN := Lib.hid hn
    have hq : ∀ (w : World) (a : Option Addr) (n c n' c' : Nat), (binOp .eql 32 (.slice a n c) (.slice none n' c')).run Try.prog w = .ok (.bool a.isNone) w := fun w a n c n' c' => Lib.run_eql_slice_nil w _ _ a n c n' c' Try.underlying32
    clear hr hn
    go_enter Try.func69, Try.ntmps69
    go_wp2_with (at_builtin
                 refine wpI_appendL rfl _ _ rfl w.heap.size _ _ 0 [] (some p) n c xs rfl rfl rfl HN.out H0.out HR.out (fun e => nomatch e) (by omega) (by simp) ?_
                 intro A' c' w' ho hg ha)
    have HO := Lib.hid ho
    have hB : Below w.heap.size w w' := ((Below.refl _ _).alloc (Nat.le_refl _) _).trans (below_blk H0.out hg (Nat.le_refl _) (by simp))
    clear ho hg ha
    go_wp2
    go_ret
    exact ⟨⟨A', _, c', rfl, by rw [HN.out], HO.out⟩, hB⟩

def nmTo (N : Nat) (xs : List Int) : Nat → List Int
  | 0 => xs
  | k + 1 => if cmpL (mvL N xs 1 (k : Int)) (nmTo N xs k) < 0 then mvL N xs 1 (k : Int) else nmTo N xs k
theorem nmTo_len (N : Nat) (xs : List Int) (k : Nat) : (nmTo N xs k).length ≤ xs.length := by
  induction k with
  | zero => exact Nat.le_refl _
  | succ k ih =>
    rw [nmTo]
    split
    · exact mvL_len _ _ _ _
    · exact ih
theorem mv_zero {N : Nat} {xs : List Int} (h : Set13 (N : Int) xs) : mvL N xs 1 0 = xs := by
  obtain ⟨_, hbd, _, _⟩ := set13_facts h
  refine rise_ext (putsTo_rise _ _) h.2.pairwise fun z => ?_
  unfold mvL
  rw [putsTo_mem, mem_nth]
  have he : ∀ j, j < xs.length → mvF N xs 1 0 j = nth xs j := fun j hj => by
    have := hbd j hj
    unfold mvF
    rw [Int.mul_one, Int.add_zero, Int.tmod_eq_emod_of_nonneg (by omega), Int.emod_eq_of_lt (by omega) (by omega)]
  constructor
  · rintro ⟨j, hj, e⟩; exact ⟨j, hj, by rw [← he j hj, e]⟩
  · rintro ⟨j, hj, e⟩; exact ⟨j, hj, by rw [he j hj, e]⟩
theorem nmTo_one {N : Nat} {xs : List Int} (h : Set13 (N : Int) xs) : nmTo N xs 1 = xs := by
  rw [nmTo, nmTo, show ((0 : Nat) : Int) = 0 from rfl, mv_zero h, cmpL_self, if_neg (by omega)]

def nmL (n : Int) (xs : List Int) : List Int := if set13 n xs = true then nmTo n.toNat xs n.toNat else []
def nmC (n : Int) (xs : List Int) : Int := if set13 n xs = true then 0 else 1
theorem NormalSet_small (n : Int) (xs : List Int) : (nmL n xs).length ≤ 1048576 := by
  unfold nmL
  split
  · next h => have := nmTo_len n.toNat xs n.toNat; have := set13_len (of_decide_eq_true h : Set13 n xs); omega
  · simp

end Go.Proofs.Ytambaonoeppblaa
