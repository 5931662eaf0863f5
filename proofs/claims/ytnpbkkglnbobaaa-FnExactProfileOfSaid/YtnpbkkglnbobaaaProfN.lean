/-
  The step of NextSubset at four numbers, and the state of the counts behind it. Conditions: those of each theorem.
-/
import Derived.Test.YtnpbkkglnbobaaaProf
namespace Go.Proofs.Ytnpbkkglnbobaaa
open Go.RowKit
set_option linter.unusedVariables false
set_option linter.unusedSimpArgs false

def rk4 (a b c d : Nat) : Nat := a * 4096 + b * 256 + c * 16 + d
def quad (a b c d : Nat) : List Int := [(a : Int), b, c, d]
theorem nx_step {n a b c d : Nat} (hab : a < b) (hbc : b < c) (hcd : c < d) (hdn : d < n) {i : Nat} (h : NxAt (n : Int) (quad a b c d) i) :
    ∃ a' b' c' d', a' < b' ∧ b' < c' ∧ c' < d' ∧ d' < n ∧ nxL (quad a b c d) i ((quad a b c d).length - i) = quad a' b' c' d' ∧ (n ≤ 16 → rk4 a b c d < rk4 a' b' c' d') ∧ ∀ (F : Nat → Nat → Nat → List Int → Nat → List Int) (s : List Int), bfD F n s a' b' c' d' = F a b c (bfD F n s a b c d) d := by
  obtain ⟨h1, h2, h3⟩ := h
  have h3a := h3 1
  have h3b := h3 2
  have h3c := h3 3
  simp [quad] at h1 h2 h3a h3b h3c
  match i, h1 with
  | 3, _ =>
    simp [nth] at h2
    exact ⟨a, b, c, d + 1, hab, hbc, by omega, by omega, by simp [quad, nxL, nth], fun hn => by unfold rk4; omega, fun F s => qu_d hcd⟩
  | 2, _ =>
    simp [nth] at h2 h3c
    exact ⟨a, b, c + 1, c + 2, hab, by omega, by omega, by omega, by simp [quad, nxL, nth]; omega, fun hn => by unfold rk4; omega, fun F s => qu_c hbc hcd (by omega)⟩
  | 1, _ =>
    simp [nth] at h2 h3b h3c
    exact ⟨a, b + 1, b + 2, b + 3, by omega, by omega, by omega, by omega, by simp [quad, nxL, nth]; omega, fun hn => by unfold rk4; omega, fun F s => qu_b hab hbc (by omega) (by omega)⟩
  | 0, _ =>
    simp [nth] at h2 h3a h3b h3c
    exact ⟨a + 1, a + 2, a + 3, a + 4, by omega, by omega, by omega, by omega, by simp [quad, nxL, nth]; omega, fun hn => by unfold rk4; omega, fun F s => qu_a hab (by omega) (by omega) (by omega)⟩
theorem nx_end {n a b c d : Nat} (h : NxEnd (n : Int) (quad a b c d)) (F : Nat → Nat → Nat → List Int → Nat → List Int) (s : List Int) (hn : 4 ≤ n) : quA F n s = F a b c (bfD F n s a b c d) d := by
  have h0 := h 0
  have h1 := h 1
  have h2 := h 2
  have h3 := h 3
  simp [quad, nth] at h0 h1 h2 h3
  exact qu_end (by omega) (by omega) (by omega) (by omega)

def cellI (w : World) (g k : Nat) : Nat := match w.cell? ⟨g, k, none⟩ with | some (.int .i64 x) => x.toNat | _ => 0
/-- What is left of the walk over the numbers. -/
def rkOf (w : World) (st more : Value) : Nat := match more, st with
  | .bool true, .slice (some ⟨g, _, _⟩) _ _ => 70000 - rk4 (cellI w g 0) (cellI w g 1) (cellI w g 2) (cellI w g 3)
  | _, _ => 0
theorem rkOf_quad {w : World} {lo g cap k a b c d : Nat} (ho : OwnI w lo (some ⟨g, 0, none⟩) cap (quad a b c d)) : rkOf w (.slice (some ⟨g, 0, none⟩) k cap) (.bool true) = 70000 - rk4 a b c d := by
  have hk : ∀ j, j < 4 → cellI w g j = (nth (quad a b c d) j).toNat := fun j hj => by
    obtain ⟨g1, e, _, _, hc, _⟩ := ho.at_ (k := j) (by simpa [quad] using hj)
    injection e with e
    injection e with e
    subst e
    unfold cellI
    rw [hc]
  show 70000 - rk4 (cellI w g 0) (cellI w g 1) (cellI w g 2) (cellI w g 3) = _
  rw [hk 0 (by omega), hk 1 (by omega), hk 2 (by omega), hk 3 (by omega)]
  simp [quad, nth]
theorem rkOf_false (w : World) (st : Value) : rkOf w st (.bool false) = 0 := rfl
end Go.Proofs.Ytnpbkkglnbobaaa
