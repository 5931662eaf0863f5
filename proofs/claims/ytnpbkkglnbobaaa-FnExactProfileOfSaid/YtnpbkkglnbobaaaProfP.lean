/-
  The plain law of ProfileOf: the quadruples in the order of the nested loops, and the step from one to the next. Conditions: those of each theorem.
-/
import Derived.Test.YtnpbkkglnbobaaaRise
namespace Go.Proofs.Ytnpbkkglnbobaaa
open Go.RowKit
set_option linter.unusedVariables false
set_option linter.unusedSimpArgs false

/-- f at lo, lo + 1, .., m of them. -/
def its {σ : Type} (f : σ → Nat → σ) (lo : Nat) : Nat → σ → σ
  | 0, s => s
  | m + 1, s => f (its f lo m s) (lo + m)

section
variable {σ : Type} (f : Nat → Nat → Nat → σ → Nat → σ) (n : Nat)

def quD (a b c : Nat) (s : σ) : σ := its (f a b c) (c + 1) (n - (c + 1)) s
def quC (a b : Nat) (s : σ) : σ := its (fun s c => quD f n a b c s) (b + 1) (n - (b + 1)) s
def quB (a : Nat) (s : σ) : σ := its (fun s b => quC f n a b s) (a + 1) (n - (a + 1)) s
def quA (s : σ) : σ := its (fun s a => quB f n a s) 0 n s

/-- What stands before a; before a, b; before a, b, c; before a, b, c, d. -/
def bfA (s : σ) (a : Nat) : σ := its (fun s a => quB f n a s) 0 a s
def bfB (s : σ) (a b : Nat) : σ := its (fun s b => quC f n a b s) (a + 1) (b - (a + 1)) (bfA f n s a)
def bfC (s : σ) (a b c : Nat) : σ := its (fun s c => quD f n a b c s) (b + 1) (c - (b + 1)) (bfB f n s a b)
def bfD (s : σ) (a b c d : Nat) : σ := its (f a b c) (c + 1) (d - (c + 1)) (bfC f n s a b c)

variable {f n}
theorem its_at {g : σ → Nat → σ} {lo d : Nat} (h : lo ≤ d) (s : σ) : its g lo (d + 1 - lo) s = g (its g lo (d - lo) s) d := by
  obtain ⟨m, rfl⟩ : ∃ m, d = lo + m := ⟨d - lo, by omega⟩
  rw [show lo + m + 1 - lo = m + 1 by omega, show lo + m - lo = m by omega]; rfl
theorem bfD_succ {s : σ} {a b c d : Nat} (h : c < d) : bfD f n s a b c (d + 1) = f a b c (bfD f n s a b c d) d := its_at h _
theorem bfC_succ {s : σ} {a b c : Nat} (h : b < c) : bfC f n s a b (c + 1) = quD f n a b c (bfC f n s a b c) := its_at (g := fun s c => quD f n a b c s) h _
theorem bfB_succ {s : σ} {a b : Nat} (h : a < b) : bfB f n s a (b + 1) = quC f n a b (bfB f n s a b) := its_at (g := fun s b => quC f n a b s) h _
theorem bfA_succ {s : σ} {a : Nat} : bfA f n s (a + 1) = quB f n a (bfA f n s a) := by
  unfold bfA; rw [its]; simp
theorem bfD_first {s : σ} {a b c : Nat} : bfD f n s a b c (c + 1) = bfC f n s a b c := by unfold bfD; rw [Nat.sub_self]; rfl
theorem bfC_first {s : σ} {a b : Nat} : bfC f n s a b (b + 1) = bfB f n s a b := by unfold bfC; rw [Nat.sub_self]; rfl
theorem bfB_first {s : σ} {a : Nat} : bfB f n s a (a + 1) = bfA f n s a := by unfold bfB; rw [Nat.sub_self]; rfl
theorem bfD_end {s : σ} {a b c : Nat} : bfD f n s a b c n = quD f n a b c (bfC f n s a b c) := rfl
theorem bfC_end {s : σ} {a b : Nat} : bfC f n s a b n = quC f n a b (bfB f n s a b) := rfl
theorem bfB_end {s : σ} {a : Nat} : bfB f n s a n = quB f n a (bfA f n s a) := rfl
theorem bfA_end {s : σ} : bfA f n s n = quA f n s := rfl
theorem quD_void {a b c : Nat} (h : n ≤ c + 1) (s : σ) : quD f n a b c s = s := by unfold quD; rw [show n - (c + 1) = 0 by omega]; rfl
theorem its_id {g : σ → Nat → σ} {lo m : Nat} (h : ∀ s d, lo ≤ d → g s d = s) (s : σ) : its g lo m s = s := by
  induction m with
  | zero => rfl
  | succ m ih => rw [its, ih, h _ _ (by omega)]
theorem quC_void {a b : Nat} (h : n ≤ b + 2) (s : σ) : quC f n a b s = s := its_id (fun s d hd => quD_void (by omega) s) s
theorem quB_void {a : Nat} (h : n ≤ a + 3) (s : σ) : quB f n a s = s := its_id (fun s d hd => quC_void (by omega) s) s
theorem bfA_void {s : σ} {a : Nat} (h : n ≤ a + 3) (k : Nat) : bfA f n s (a + k) = bfA f n s a := by
  induction k with
  | zero => rfl
  | succ k ih => rw [show a + (k + 1) = (a + k) + 1 by omega, bfA_succ, quB_void (by omega), ih]

/-- The step within d. -/
theorem qu_d {s : σ} {a b c d : Nat} (h : c < d) : bfD f n s a b c (d + 1) = f a b c (bfD f n s a b c d) d := bfD_succ h
/-- The step at the end of d. -/
theorem qu_c {s : σ} {a b c d : Nat} (hb : b < c) (h : c < d) (hd : d + 1 = n) : bfD f n s a b (c + 1) (c + 2) = f a b c (bfD f n s a b c d) d := by
  rw [bfD_first, bfC_succ hb, ← bfD_end, ← hd, bfD_succ h, hd]
/-- The step at the end of c and d. -/
theorem qu_b {s : σ} {a b c d : Nat} (ha : a < b) (hb : b < c) (hd : d + 1 = n) (hc : c + 1 = d) : bfD f n s a (b + 1) (b + 2) (b + 3) = f a b c (bfD f n s a b c d) d := by
  refine Eq.trans ?_ (qu_c (s := s) (a := a) hb (by omega) hd)
  rw [bfD_first, bfC_first, bfB_succ ha, ← bfC_end, bfD_first]
  rw [show n = (c + 1) + 1 by omega, bfC_succ (by omega), quD_void (by omega)]
/-- The step at the end of b, c and d. -/
theorem qu_a {s : σ} {a b c d : Nat} (ha : a < b) (hd : d + 1 = n) (hc : c + 1 = d) (hb : b + 1 = c) : bfD f n s (a + 1) (a + 2) (a + 3) (a + 4) = f a b c (bfD f n s a b c d) d := by
  refine Eq.trans ?_ (qu_b (s := s) ha (by omega) hd hc)
  rw [bfD_first, bfC_first, bfB_first, bfA_succ, ← bfB_end, bfD_first, bfC_first]
  rw [show n = (b + 1) + 1 + 1 by omega, bfB_succ (by omega), quC_void (by omega), bfB_succ (by omega), quC_void (by omega)]
/-- The end of all. -/
theorem qu_end {s : σ} {a b c d : Nat} (hd : d + 1 = n) (hc : c + 1 = d) (hb : b + 1 = c) (ha : a + 1 = b) : quA f n s = f a b c (bfD f n s a b c d) d := by
  refine Eq.trans ?_ (qu_a (s := s) (by omega) hd hc hb)
  rw [bfD_first, bfC_first, bfB_first]
  rw [← bfA_end, show n = (a + 1) + 3 by omega, bfA_void (by omega)]
/-- The start. -/
theorem qu_start {s : σ} (h : 4 ≤ n) : bfD f n s 0 1 2 3 = s := by
  rw [bfD_first, bfC_first, bfB_first]; rfl
/-- Fewer than four. -/
theorem qu_few {s : σ} (h : n < 4) : quA f n s = s := its_id (fun s d hd => quB_void (by omega) s) s
end
end Go.Proofs.Ytnpbkkglnbobaaa
