/-
  filledSquare and emptySquare: a square of what a function value gives. Conditions: those of each theorem.
-/
import Derived.Test.YthgbfgdnljgicabFuncs
namespace Go.Proofs.Ythgbfgdnljgicab
open Go.RowKit
set_option linter.unusedVariables false
set_option linter.unusedSimpArgs false

def rowTo (f : Nat → Nat → Int) (x k : Nat) : List Int := (List.range k).map fun y => f x y
def sqTo (f : Nat → Nat → Int) (m k : Nat) : List (List Int) := (List.range k).map fun x => rowTo f x m
theorem length_rowTo (f : Nat → Nat → Int) (x k : Nat) : (rowTo f x k).length = k := by simp [rowTo]
theorem length_sqTo (f : Nat → Nat → Int) (m k : Nat) : (sqTo f m k).length = k := by simp [sqTo]
theorem rowTo_succ (f : Nat → Nat → Int) (x k : Nat) : rowTo f x (k + 1) = rowTo f x k ++ [f x k] := by simp [rowTo, List.range_succ]
theorem sqTo_succ (f : Nat → Nat → Int) (m k : Nat) : sqTo f m (k + 1) = sqTo f m k ++ [rowTo f k m] := by simp [sqTo, List.range_succ]
theorem row_sqTo {f : Nat → Nat → Int} {m k x : Nat} (h : x < k) : row (sqTo f m k) x = rowTo f x m := by simp [row, sqTo, h]
theorem nth_rowTo {f : Nat → Nat → Int} {x k y : Nat} (h : y < k) : nth (rowTo f x k) y = f x y := by simp [nth, rowTo, h]
theorem tot_sqTo (f : Nat → Nat → Int) (m k : Nat) : tot (sqTo f m k) = k * m := by
  induction k with
  | zero => simp [tot, sqTo]
  | succ k ih => rw [sqTo_succ, tot_append, ih, tot_one, length_rowTo, Nat.succ_mul]
theorem below_blk {w w' : World} {lo B : Nat} {A : Option Addr} {c : Nat} {xs : List Int} (ho : OwnI w lo A c xs) (hg : w.grownBy w' (blk A)) (hB : B ≤ lo) (hs : B ≤ w.heap.size) : Below B w w' :=
  (Below.refl B w).grown hg hs fun g e => by
    rcases ho.form with ⟨e1, _⟩ | ⟨g1, e1, hl1, _⟩
    · rw [e1] at e; simp [blk] at e
    · rw [e1, blk_some] at e; injection e with e; omega
theorem below_blkM {w w' : World} {lo B : Nat} {A : Option Addr} {c : Nat} {R : Spine} {xss : List (List Int)} (ho : OwnM w lo A c R xss) (hg : w.grownBy w' (blk A)) (hB : B ≤ lo) (hs : B ≤ w.heap.size) : Below B w w' :=
  (Below.refl B w).grown hg hs fun g e => by
    rcases ho.form with ⟨e1, _⟩ | ⟨g1, e1, hl1, _⟩
    · rw [e1] at e; simp [blk] at e
    · rw [e1, blk_some] at e; injection e with e; omega
theorem OwnM.alloc {w : World} {lo : Nat} {A : Option Addr} {c : Nat} {R : Spine} {xss : List (List Int)} (h : OwnM w lo A c R xss) (o : Obj) : OwnM (w.alloc o) lo A c R xss :=
  h.below ((Below.refl _ _).alloc (Nat.le_refl _) o)
/-- A row made later lies apart from the rows that were there. -/
theorem later_apart {w0 w : World} {lo : Nat} {A A' : Option Addr} {c c' : Nat} {R : Spine} {xss : List (List Int)} {ys : List Int} (h : OwnM w0 lo A c R xss) (hr : OwnI w w0.heap.size A' c' ys) :
    ∀ k, k < xss.length → ∀ g, (R k).1 = some ⟨g, 0, none⟩ → A' ≠ some ⟨g, 0, none⟩ := fun k hk g e e2 => by
  have h1 := ((h.rows k hk).lt e).2
  have h2 := (hr.lt e2).1
  omega

end Go.Proofs.Ythgbfgdnljgicab
