/-
  TransposeHadamard, NegateLine, NormalHadamard: contracts of the program's and of the reference's functions. Conditions: those of each theorem.
-/
import Derived.Test.YtdneldecedbepaaHad2
import Derived.Test.YtdneldecedbepaaMat
namespace Go.Proofs.Ytdneldecedbepaa
open Go.RowKit
set_option linter.unusedVariables false
set_option linter.unusedSimpArgs false

theorem makeFunc_run : ∀ (fn : Fn) (first cap : Array Value) (w : World), (Instr.makeFunc fn first cap).run Try.prog w = .ok (.func fn first cap) w := fun _ _ _ _ => rfl

/-- A square of 1 and -1. -/
def PmF (f : Nat → Nat → Int) (n : Nat) : Prop := ∀ x y, x < n → y < n → f x y = 1 ∨ f x y = -1
def entry (h : List (List Int)) : Nat → Nat → Int := fun x y => nth (row h x) y
theorem ValidH.sq {h : List (List Int)} (hv : ValidH h) {n : Nat} (hn : h.length = n) : h = sqTo (entry h) n n ∧ PmF (entry h) n ∧ 1 ≤ n ∧ n ≤ 32 := by
  subst hn
  refine ⟨sq_of rfl fun x hx => (hv.2.1 x hx).1, fun x y hx hy => ?_, hv.1.1, hv.1.2⟩
  exact (hv.2.1 x hx).2 y hy

theorem quiet_w {f : FuncId} {args : Array Value} {w : World} {n : Nat} {v : Value} (h : Calls Try.prog f args (w.drewN n) fun e w' => e = .returned v ∧ w.drewN n = w') :
    Calls Try.prog f args (w.drewN n) fun e w' => e = .returned v ∧ ∃ m, w' = w.drewN m :=
  h.mono fun _ _ ⟨he, hm⟩ => ⟨he, n, hm.symm⟩

/-! ### The transpose -/

noncomputable def turnM (h : List (List Int)) : List (List Int) := if validB h = true then sqTo (fun x y => entry h y x) h.length h.length else []
noncomputable def turnC (h : List (List Int)) : Int := if validB h = true then 0 else 1

theorem TransposeHadamard_small (h : List (List Int)) : (turnM h).length ≤ 1048576 ∧ tot (turnM h) ≤ 1048576 := by
  unfold turnM
  split
  · next hv =>
    have := (validB_iff.1 hv).1
    rw [length_sqTo, tot_sqTo]
    exact ⟨by omega, Nat.le_trans (Nat.mul_le_mul this.2 this.2) (by omega)⟩
  · simp [tot]
end Go.Proofs.Ytdneldecedbepaa
