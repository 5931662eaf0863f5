/-
  Whether a design is valid: l10Block, l10Ok of the reference, slices.IsSortedFunc at slices.Compare, ValidDesign of the program. Conditions: those of each theorem.
-/
import Derived.Test.YthgbfgdnljgicaaCmp
import Derived.Test.YthgbfgdnljgicaaDsg
namespace Go.Proofs.Ythgbfgdnljgicaa
open Go.RowKit
set_option linter.unusedVariables false
set_option linter.unusedSimpArgs false

def DsgOk (p : Int) (xss : List (List Int)) : Prop :=
  (1 ≤ p ∧ p ≤ 32) ∧ xss.length ≤ 128 ∧ ∀ k, k < xss.length → blockB (row xss k) p = true ∧ (0 < k → cmpL (row xss (k - 1)) (row xss k) ≤ 0)
instance (p : Int) (xss : List (List Int)) : Decidable (DsgOk p xss) := by unfold DsgOk; infer_instance
def dsgB (p : Int) (xss : List (List Int)) : Bool := decide (DsgOk p xss)
theorem dsgB_true {p : Int} {xss : List (List Int)} : dsgB p xss = true ↔ DsgOk p xss := by simp [dsgB]

theorem setB_rise {xs : List Int} {p : Int} (h0 : 0 ≤ p) (h1 : p ≤ 32) : setB xs p = riseB 0 (p - 1) xs := by
  unfold setB riseB
  exact decide_eq_decide.2 ⟨fun h => h.1, fun h => ⟨h, h0, h1⟩⟩

theorem EndQ.postV {v : Value} {w : World} {e : Ending} {w' : World} (h : EndQ v w e w') : PostV w v e w' := by
  obtain ⟨he, m, rfl⟩ := h
  exact ⟨he, below_drewN (Below.refl _ _) m⟩

/-- The box of a design. -/
structure BoxD (w : World) (B : Nat) (p : Int) (A : Option Addr) (n c : Nat) : Prop where
  c0 : w.cell? ⟨B, 0, none⟩ = some (.int .i64 p)
  c1 : w.cell? ⟨B, 1, none⟩ = some (.slice A n c)
theorem BoxD.made (w : World) (p : Int) (A : Option Addr) (n c : Nat) (T : TypeId) : BoxD (w.alloc (.cells #[.int .i64 p, .slice A n c] T)) w.heap.size p A n c := ⟨by simp [go_sem], by simp [go_sem]⟩
theorem BoxD.lt {w : World} {B : Nat} {p : Int} {A : Option Addr} {n c : Nat} (h : BoxD w B p A n c) : B < w.heap.size := cell_size h.c0
theorem BoxD.below {w w' : World} {B : Nat} {p : Int} {A : Option Addr} {n c : Nat} (h : BoxD w B p A n c) (hb : Below w.heap.size w w') : BoxD w' B p A n c :=
  ⟨(hb.cell (p := ⟨B, 0, none⟩) h.lt).trans h.c0, (hb.cell (p := ⟨B, 1, none⟩) h.lt).trans h.c1⟩
theorem BoxD.drewN {w : World} {B : Nat} {p : Int} {A : Option Addr} {n c : Nat} (h : BoxD w B p A n c) (m : Nat) : BoxD (w.drewN m) B p A n c := ⟨h.c0, h.c1⟩

/-! ### The program's -/

def SortedR (xss : List (List Int)) : Prop := ∀ k, k < xss.length → 0 < k → cmpL (row xss (k - 1)) (row xss k) ≤ 0
instance (xss : List (List Int)) : Decidable (SortedR xss) := by unfold SortedR; infer_instance
def sortedB (xss : List (List Int)) : Bool := decide (SortedR xss)

end Go.Proofs.Ythgbfgdnljgicaa
