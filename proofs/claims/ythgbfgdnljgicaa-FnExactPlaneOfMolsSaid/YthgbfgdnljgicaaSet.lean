/-
  Sets of points: l00Rises, l13Set, l13Ok of the reference; ValidSet, isBlock, areBlocks, areBases of the program. Conditions: those of each theorem.
-/
import Derived.Test.YthgbfgdnljgicaaFuncs
import Derived.Test.YthgbfgdnljgicaaMat
namespace Go.Proofs.Ythgbfgdnljgicaa
open Go.RowKit
set_option linter.unusedVariables false
set_option linter.unusedSimpArgs false

/-- The first k numbers rise, from lo to hi. -/
def RiseTo (lo hi : Int) (xs : List Int) (k : Nat) : Prop := ∀ j, j < k → (lo ≤ nth xs j ∧ nth xs j ≤ hi) ∧ (0 < j → nth xs (j - 1) < nth xs j)
instance (lo hi : Int) (xs : List Int) (k : Nat) : Decidable (RiseTo lo hi xs k) := by unfold RiseTo; infer_instance
def riseB (lo hi : Int) (xs : List Int) : Bool := decide (RiseTo lo hi xs xs.length)
theorem RiseTo.zero (lo hi : Int) (xs : List Int) : RiseTo lo hi xs 0 := fun j hj => absurd hj (by omega)
theorem RiseTo.next {lo hi : Int} {xs : List Int} {k : Nat} (h : RiseTo lo hi xs k) (h1 : lo ≤ nth xs k ∧ nth xs k ≤ hi) (h2 : 0 < k → nth xs (k - 1) < nth xs k) : RiseTo lo hi xs (k + 1) := fun j hj => by
  by_cases e : j = k
  · subst e; exact ⟨h1, h2⟩
  · exact h j (by omega)

theorem quiet_dr {f : FuncId} {args : Array Value} {w : World} {n : Nat} {v : Value} (h : Calls Try.prog f args (w.drewN n) fun e w' => e = .returned v ∧ w.drewN n = w') :
    Calls Try.prog f args (w.drewN n) fun e w' => e = .returned v ∧ ∃ m, w' = w.drewN m :=
  h.mono fun _ _ ⟨he, hm⟩ => ⟨he, n, hm.symm⟩
theorem quiet_drN {f : FuncId} {args : Array Value} {w : World} {a n : Nat} {v : Value} (h : Calls Try.prog f args (w.drewN (a + n)) fun e w' => e = .returned v ∧ w.drewN (a + n) = w') :
    Calls Try.prog f args (w.drewN (a + n)) fun e w' => e = .returned v ∧ ∃ m, w' = w.drewN (a + m) :=
  h.mono fun _ _ ⟨he, hm⟩ => ⟨he, n, hm.symm⟩
theorem quiet_w2 {f : FuncId} {args : Array Value} {w : World} {v : Value} (h : Calls Try.prog f args w fun e w' => e = .returned v ∧ w = w') :
    Calls Try.prog f args w fun e w' => e = .returned v ∧ ∃ m, w' = w.drewN m :=
  h.mono fun _ _ ⟨he, hm⟩ => ⟨he, 0, hm.symm⟩

/-! ### The program's sets -/

def setB (xs : List Int) (n : Int) : Bool := decide (RiseTo 0 (n - 1) xs xs.length ∧ 0 ≤ n ∧ n ≤ 32)
def lastOf (xs : List Int) (k : Nat) : Int := if k = 0 then -1 else nth xs (k - 1)
theorem lastOf_succ (xs : List Int) (k : Nat) : lastOf xs (k + 1) = nth xs k := by simp [lastOf]

def blockB (xs : List Int) (n : Int) : Bool := decide (0 < xs.length) && setB xs n
def BlocksOk (xss : List (List Int)) (n : Int) : Prop := (1 ≤ n ∧ n ≤ 32) ∧ ∀ k, k < xss.length → blockB (row xss k) n = true
instance (xss : List (List Int)) (n : Int) : Decidable (BlocksOk xss n) := by unfold BlocksOk; infer_instance
def blocksB (xss : List (List Int)) (n : Int) : Bool := decide (BlocksOk xss n)

end Go.Proofs.Ythgbfgdnljgicaa
