/-
  Identities of squares: l08Holds of the reference at the kinds 1 and 8. Conditions: those of each theorem.
-/
import Derived.Test.YthgbfgdnljgicaaSqr2
namespace Go.Proofs.Ythgbfgdnljgicaa
open Go.RowKit
set_option linter.unusedVariables false
set_option linter.unusedSimpArgs false

/-- A square that lies in memory: rows of n numbers each. -/
structure Grid (w : World) (n b o : Nat) (fb fo fc : Nat → Nat) (E : Nat → Nat → Int) : Prop where
  lt : b < w.heap.size
  row : ∀ x, x < n → w.cell? ⟨b, o + x, none⟩ = some (.slice (some ⟨fb x, fo x, none⟩) n (fc x))
  rlt : ∀ x, x < n → fb x < w.heap.size
  ent : ∀ x y, x < n → y < n → w.cell? ⟨fb x, fo x + y, none⟩ = some (.int .i64 (E x y))
theorem Grid.below {w w' : World} {n b o : Nat} {fb fo fc : Nat → Nat} {E : Nat → Nat → Int} (h : Grid w n b o fb fo fc E) {lo : Nat} (hb : Below lo w w') (hl : w.heap.size ≤ lo) : Grid w' n b o fb fo fc E :=
  ⟨by have := h.lt; have := hb.size; exact Nat.lt_of_lt_of_le h.lt (hb.mono hl).size, fun x hx => ((hb.cell (p := ⟨b, o + x, none⟩) (Nat.lt_of_lt_of_le h.lt hl)).trans (h.row x hx)), fun x hx => Nat.lt_of_lt_of_le (h.rlt x hx) (hb.mono hl).size, fun x y hx hy => (hb.cell (p := ⟨fb x, fo x + y, none⟩) (Nat.lt_of_lt_of_le (h.rlt x hx) hl)).trans (h.ent x y hx hy)⟩
theorem Grid.drewN {w : World} {n b o : Nat} {fb fo fc : Nat → Nat} {E : Nat → Nat → Int} (h : Grid w n b o fb fo fc E) (m : Nat) : Grid (w.drewN m) n b o fb fo fc E :=
  h.below (below_drewN (Below.refl w.heap.size w) m) (Nat.le_refl _)
theorem grid_of {w : World} {A : Option Addr} {c : Nat} {R : Spine} {a : List (List Int)} (hr : RdM w A c R a) {n : Nat} (hn : a.length = n) (h1 : 1 ≤ n) (hl : ∀ x, x < n → (Go.Proofs.Ythgbfgdnljgicaa.row a x).length = n) :
    ∃ b o fb fo, A = some ⟨b, o, none⟩ ∧ Grid w n b o fb fo (fun x => (R x).2) (fun x y => nth (Go.Proofs.Ythgbfgdnljgicaa.row a x) y) := by
  obtain ⟨b, o, e, hb, _⟩ := hr.at_ 0 (by omega)
  subst e
  have hrow : ∀ x, x < n → ∃ q : Nat × Nat, (R x).1 = some ⟨q.1, q.2, none⟩ ∧ q.1 < w.heap.size ∧ ∀ y, y < n → w.cell? ⟨q.1, q.2 + y, none⟩ = some (.int .i64 (nth (Go.Proofs.Ythgbfgdnljgicaa.row a x) y)) := fun x hx => by
    have hR := hr.rows x (by omega)
    obtain ⟨b1, o1, e1, hb1, _⟩ := hR.at_ 0 (by rw [hl x hx]; omega)
    refine ⟨(b1, o1), e1, hb1, fun y hy => ?_⟩
    obtain ⟨b2, o2, e2, hb2, hc2⟩ := hR.at_ y (by rw [hl x hx]; omega)
    rw [e1] at e2
    injection e2 with e2
    injection e2 with e3 e4
    subst e3 e4
    exact hc2
  have hex : ∃ f : Nat → Nat × Nat, ∀ x, x < n → (R x).1 = some ⟨(f x).1, (f x).2, none⟩ ∧ (f x).1 < w.heap.size ∧ ∀ y, y < n → w.cell? ⟨(f x).1, (f x).2 + y, none⟩ = some (.int .i64 (nth (Go.Proofs.Ythgbfgdnljgicaa.row a x) y)) :=
    ⟨fun x => if hx : x < n then (hrow x hx).choose else (0, 0), fun x hx => by simp only [dif_pos hx]; exact (hrow x hx).choose_spec⟩
  obtain ⟨f, hf⟩ := hex
  refine ⟨b, o, fun x => (f x).1, fun x => (f x).2, rfl, hb, fun x hx => ?_, fun x hx => (hf x hx).2.1, fun x y hx hy => (hf x hx).2.2 y hy⟩
  obtain ⟨b2, o2, e2, _, hc2⟩ := hr.at_ x (by omega)
  injection e2 with e2
  injection e2 with e3 e4
  subst e3 e4
  rw [hc2, (hf x hx).1, hl x hx]

def diB (n : Nat) (E : Nat → Nat → Int) : Bool := decide (∀ x, x < n → E x x = (x : Int))
def coAt (n : Nat) (E : Nat → Nat → Int) (x k : Nat) : Prop := ∀ y, y < k → E x y = E y x
def seAt (n : Nat) (E : Nat → Nat → Int) (x k : Nat) : Prop := ∀ y, y < k → E x (E y x).toNat = (y : Int)
instance (n : Nat) (E : Nat → Nat → Int) (x k : Nat) : Decidable (coAt n E x k) := by unfold coAt; infer_instance
instance (n : Nat) (E : Nat → Nat → Int) (x k : Nat) : Decidable (seAt n E x k) := by unfold seAt; infer_instance
def coB (n : Nat) (E : Nat → Nat → Int) : Bool := decide (∀ x, x < n → coAt n E x n)
def seB (n : Nat) (E : Nat → Nat → Int) : Bool := decide (∀ x, x < n → seAt n E x n)

end Go.Proofs.Ythgbfgdnljgicaa
