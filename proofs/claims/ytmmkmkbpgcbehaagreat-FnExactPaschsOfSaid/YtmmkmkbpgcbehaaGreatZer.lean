/-
  Squares that are filled cell by cell: l06Zero, stores into an owned square. Conditions: those of each theorem.
-/
import Derived.Test.YtmmkmkbpgcbehaaGreatMat
import Derived.Deep.RegionHeld3
namespace Go.Proofs.YtmmkmkbpgcbehaaGreat
open Go.RowKit Go.Deep
set_option linter.unusedVariables false
set_option linter.unusedSimpArgs false

/-- A store at (i, j) of an owned square whose row i is known. -/
theorem OwnM.sq_store {w : World} {lo : Nat} {A : Option Addr} {c : Nat} {R : Spine} {f : Nat → Nat → Int} {m k i j g' : Nat} (h : OwnM w lo A c R (sqTo f m k)) (hi : i < k) (hj : j < m) (e : (R i).1 = some ⟨g', 0, none⟩) (v : Int) :
    OwnM (w.setCell ⟨g', j, none⟩ (.int .i64 v)) lo A c R (sqTo (upd f i j v) m k) := by
  obtain ⟨g, g2, C, _, hc, _, _, _, _, hset⟩ := h.sq_at hi hj
  have hi' : i < (sqTo f m k).length := by rw [length_sqTo]; exact hi
  obtain ⟨g3, e3, _, _, hc3, _⟩ := h.at_ hi'
  have hrow := h.rows i hi'
  rw [row_sqTo hi] at hrow
  obtain ⟨g4, e4, _, _, hcj, _⟩ := hrow.at_ (k := j) (by rw [length_rowTo]; exact hj)
  rw [e] at e4
  injection e4 with e4
  injection e4 with e4
  subst e4
  rw [← sqTo_set hi hj]
  rw [e] at hrow
  refine h.row_turned hi' (by rw [row_sqTo hi]; simp) ?_ ?_
  · rw [row_sqTo hi, e]
    exact hrow.stored j v
  · rw [e, blk_some]
    exact grownBy_setCell w ⟨g', j, none⟩ (.int .i64 v)
theorem OwnM.sq_row {w : World} {lo : Nat} {A : Option Addr} {c : Nat} {R : Spine} {f : Nat → Nat → Int} {m k i : Nat} (h : OwnM w lo A c R (sqTo f m k)) (hi : i < k) (hm : 0 < m) :
    ∃ g g', A = some ⟨g, 0, none⟩ ∧ (R i).1 = some ⟨g', 0, none⟩ ∧ lo ≤ g' ∧ g' < w.heap.size ∧ w.cell? ⟨g, i, none⟩ = some (.slice (some ⟨g', 0, none⟩) m (R i).2) ∧ ∀ j, j < m → w.cell? ⟨g', j, none⟩ = some (.int .i64 (f i j)) ∧ w.frozen? ⟨g', j, none⟩ = false := by
  have hi' : i < (sqTo f m k).length := by rw [length_sqTo]; exact hi
  obtain ⟨g, eg, _, _, hc, _⟩ := h.at_ hi'
  have hrow := h.rows i hi'
  rw [row_sqTo hi] at hrow hc
  rw [length_rowTo] at hc
  obtain ⟨g', e', hl, hlt, _, _⟩ := hrow.at_ (k := 0) (by rw [length_rowTo]; exact hm)
  refine ⟨g, g', eg, e', hl, hlt, by rw [hc, e'], fun j hj => ?_⟩
  obtain ⟨g2, e2, _, _, hcj, hf⟩ := hrow.at_ (k := j) (by rw [length_rowTo]; exact hj)
  rw [e'] at e2
  injection e2 with e2
  injection e2 with e2
  subst e2
  rw [nth_rowTo hj] at hcj
  exact ⟨hcj, hf⟩

def zeroF (_ _ : Nat) : Int := 0
def tqF (f : Nat → Nat → Int) (x y : Nat) : Nat → Nat → Int := fun i j => if i < x ∨ (i = x ∧ j < y) then f i j else 0
theorem tqF_set (f : Nat → Nat → Int) (x y : Nat) : upd (tqF f x y) x y (f x y) = tqF f x (y + 1) := by
  funext i j
  unfold upd tqF
  by_cases e : i = x ∧ j = y
  · obtain ⟨rfl, rfl⟩ := e
    rw [if_pos ⟨rfl, rfl⟩, if_pos (by omega)]
  · rw [if_neg e]
    by_cases h : i < x ∨ (i = x ∧ j < y)
    · rw [if_pos h, if_pos (by omega)]
    · rw [if_neg h, if_neg (by omega)]
theorem upd_upd (f : Nat → Nat → Int) (x y : Nat) (u v : Int) : upd (upd f x y u) x y v = upd f x y v := by
  funext i j
  unfold upd
  by_cases e : i = x ∧ j = y
  · rw [if_pos e, if_pos e]
  · rw [if_neg e, if_neg e, if_neg e]
theorem tqF_row (f : Nat → Nat → Int) (x P : Nat) : sqTo (tqF f x P) P P = sqTo (tqF f (x + 1) 0) P P := sqTo_congr fun i j _ hj => by
  unfold tqF
  by_cases h : i < x ∨ (i = x ∧ j < P)
  · rw [if_pos h, if_pos (by omega)]
  · rw [if_neg h, if_neg (by omega)]
theorem tqF_zero (f : Nat → Nat → Int) (P : Nat) : sqTo zeroF P P = sqTo (tqF f 0 0) P P := sqTo_congr fun i j _ _ => by
  unfold tqF zeroF
  rw [if_neg (by omega)]
theorem tqF_all (f : Nat → Nat → Int) (P : Nat) : sqTo (tqF f P 0) P P = sqTo f P P := sqTo_congr fun i j hi _ => by
  unfold tqF
  rw [if_pos (by omega)]

end Go.Proofs.YtmmkmkbpgcbehaaGreat
