/-
  The third point of two points: thirdPoints of the program, l11Third, l11Two of the reference, ThirdPoint of both. Conditions: those of each theorem.
-/
import Derived.Test.YtamklliaibfljaaThirdP
namespace Go.Proofs.Ytamklliaibfljaa
open Go.RowKit
set_option linter.unusedVariables false
set_option linter.unusedSimpArgs false

def diaF (k x y : Nat) : Int := if x = y ∧ x < k then (x : Int) else 0
theorem diaF_succ (k : Nat) : upd (diaF k) k k (k : Int) = diaF (k + 1) := by
  funext x y
  unfold upd diaF
  by_cases e : x = k ∧ y = k
  · obtain ⟨rfl, rfl⟩ := e
    rw [if_pos ⟨rfl, rfl⟩, if_pos ⟨rfl, by omega⟩]
  · rw [if_neg e]
    by_cases h : x = y ∧ x < k
    · rw [if_pos h, if_pos ⟨h.1, by omega⟩]
    · rw [if_neg h, if_neg (by omega)]
theorem diaF_all {P : Nat} (xss : List (List Int)) : sqTo (diaF P) P P = sqTo (thF xss 0) P P := sqTo_congr fun x y hx hy => by
  unfold diaF thF
  by_cases e : x = y
  · rw [if_pos ⟨e, hx⟩, if_pos e]
  · rw [if_neg (by omega), if_neg e, if_pos (by rw [firstIdx_miss (fun j hj => absurd hj (by omega))]; omega)]

/-- A store at (i, j) of an owned square whose row i is known. -/
theorem OwnM.sq_store {w : World} {lo : Nat} {A : Option Addr} {c : Nat} {R : Spine} {f : Nat → Nat → Int} {m k i j g' : Nat} (h : OwnM w lo A c R (sqTo f m k)) (hi : i < k) (hj : j < m) (e : (R i).1 = some ⟨g', 0, none⟩) (v : Int) :
    OwnM (w.setCell ⟨g', j, none⟩ (.int .i64 v)) lo A c R (sqTo (upd f i j v) m k) := by
  obtain ⟨g, g2, C, _, hc, _, _, _, _, hset⟩ := h.sq_at hi hj
  have hi' : i < (sqTo f m k).length := by rw [length_sqTo]; exact hi
  obtain ⟨g3, e3, _, _, hc3, _⟩ := h.at_ hi'
  have hrow := h.rows i hi'
  rw [row_sqTo hi] at hrow
  obtain ⟨g4, e4, _, _, hcj, _⟩ := hrow.at_ (k := j) (by rw [length_rowTo]; exact hj)
  rw [e] at e4
  injection e4 with e4
  injection e4 with e4
  subst e4
  rw [← sqTo_set hi hj]
  rw [e] at hrow
  refine h.row_turned hi' (by rw [row_sqTo hi]; simp) ?_ ?_
  · rw [row_sqTo hi, e]
    exact hrow.stored j v
  · rw [e, blk_some]
    exact grownBy_setCell w ⟨g', j, none⟩ (.int .i64 v)
theorem OwnM.sq_row {w : World} {lo : Nat} {A : Option Addr} {c : Nat} {R : Spine} {f : Nat → Nat → Int} {m k i : Nat} (h : OwnM w lo A c R (sqTo f m k)) (hi : i < k) (hm : 0 < m) :
    ∃ g g', A = some ⟨g, 0, none⟩ ∧ (R i).1 = some ⟨g', 0, none⟩ ∧ lo ≤ g' ∧ g' < w.heap.size ∧ w.cell? ⟨g, i, none⟩ = some (.slice (some ⟨g', 0, none⟩) m (R i).2) ∧ ∀ j, j < m → w.cell? ⟨g', j, none⟩ = some (.int .i64 (f i j)) ∧ w.frozen? ⟨g', j, none⟩ = false := by
  have hi' : i < (sqTo f m k).length := by rw [length_sqTo]; exact hi
  obtain ⟨g, eg, _, _, hc, _⟩ := h.at_ hi'
  have hrow := h.rows i hi'
  rw [row_sqTo hi] at hrow hc
  rw [length_rowTo] at hc
  obtain ⟨g', e', hl, hlt, _, _⟩ := hrow.at_ (k := 0) (by rw [length_rowTo]; exact hm)
  refine ⟨g, g', eg, e', hl, hlt, by rw [hc, e'], fun j hj => ?_⟩
  obtain ⟨g2, e2, _, _, hcj, hf⟩ := hrow.at_ (k := j) (by rw [length_rowTo]; exact hj)
  rw [e'] at e2
  injection e2 with e2
  injection e2 with e2
  subst e2
  rw [nth_rowTo hj] at hcj
  exact ⟨hcj, hf⟩

theorem trip_dsg {p : Int} {xss : List (List Int)} (h : tripB p xss = true) : DsgOk p xss ∧ tripOk p.toNat xss := by
  unfold tripB at h
  rw [Bool.and_eq_true, dsgB_true, decide_eq_true_eq] at h
  exact h
theorem trip_sys {P : Nat} {xss : List (List Int)} (h : tripB (P : Int) xss = true) : DsgOk (P : Int) xss ∧ TripSys P xss := by
  obtain ⟨h1, h2⟩ := trip_dsg h
  exact ⟨h1, trip_of h1 (by simpa using h2)⟩

/-- The code of a triple system and two points. -/
def twoI (p : Int) (xss : List (List Int)) (a b : Int) : Int := if tripB p xss = false then 1 else if inB a 0 (p - 1) = false ∨ inB b 0 (p - 1) = false ∨ a = b then 2 else 0
theorem twoI_zero {p : Int} {xss : List (List Int)} {a b : Int} (h : twoI p xss a b = 0) : tripB p xss = true ∧ (0 ≤ a ∧ a ≤ p - 1) ∧ (0 ≤ b ∧ b ≤ p - 1) ∧ a ≠ b := by
  unfold twoI at h
  split at h
  · omega
  · next h1 =>
    split at h
    · omega
    · next h2 =>
      refine ⟨by simpa using h1, inB_true.1 ?_, inB_true.1 ?_, fun e => h2 (.inr (.inr e))⟩
      · rcases hq : inB a 0 (p - 1) with _ | _
        · exact absurd (.inl hq) h2
        · rfl
      · rcases hq : inB b 0 (p - 1) with _ | _
        · exact absurd (.inr (.inl hq)) h2
        · rfl

/-! ### ThirdPoint -/

def thpI (p : Int) (xss : List (List Int)) (a b : Int) : Int := if twoI p xss a b = 0 then thF xss xss.length a.toNat b.toNat else 0

end Go.Proofs.Ytamklliaibfljaa
