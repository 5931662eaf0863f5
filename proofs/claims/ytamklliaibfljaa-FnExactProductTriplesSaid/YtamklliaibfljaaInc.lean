/-
  Sums of naturals, and the incidences of an affine plane: lines through a point, and the one parallel line. Plain Lean, no program in sight. Conditions: those of each theorem.
-/
import Derived.Test.YtamklliaibfljaaMem
namespace Go.Proofs.Ytamklliaibfljaa
set_option linter.unusedVariables false
set_option linter.unusedSimpArgs false

/-- The sum of g 0 .. g (k - 1). -/
def sg (g : Nat → Nat) : Nat → Nat
  | 0 => 0
  | k + 1 => sg g k + g k
theorem sg_congr {f g : Nat → Nat} {k : Nat} (h : ∀ i, i < k → f i = g i) : sg f k = sg g k := by
  induction k with
  | zero => rfl
  | succ k ih => rw [sg, sg, ih (fun i hi => h i (by omega)), h k (by omega)]
theorem sg_add (f g : Nat → Nat) (k : Nat) : sg (fun i => f i + g i) k = sg f k + sg g k := by
  induction k with
  | zero => rfl
  | succ k ih => simp only [sg, ih]; omega
theorem sg_zero (k : Nat) : sg (fun _ => 0) k = 0 := by
  induction k with
  | zero => rfl
  | succ k ih => simp only [sg, ih]
theorem sg_swap (f : Nat → Nat → Nat) (a b : Nat) : sg (fun t => sg (fun r => f r t) a) b = sg (fun r => sg (fun t => f r t) b) a := by
  induction a with
  | zero => simp only [sg]; exact sg_zero b
  | succ a ih => simp only [sg]; rw [sg_add, ih]
theorem sg_mul (c : Nat) (g : Nat → Nat) (k : Nat) : sg (fun i => c * g i) k = c * sg g k := by
  induction k with
  | zero => rfl
  | succ k ih => simp only [sg, ih]; rw [Nat.mul_add]
theorem sg_mulr (c : Nat) (g : Nat → Nat) (k : Nat) : sg (fun i => g i * c) k = sg g k * c := by
  rw [Nat.mul_comm, ← sg_mul]; exact sg_congr fun i _ => Nat.mul_comm _ _
theorem sg_const (c k : Nat) : sg (fun _ => c) k = k * c := by
  induction k with
  | zero => simp [sg]
  | succ k ih => rw [sg, ih, Nat.succ_mul]
theorem sg_le {f g : Nat → Nat} {k : Nat} (h : ∀ i, i < k → f i ≤ g i) : sg f k ≤ sg g k := by
  induction k with
  | zero => exact Nat.le_refl _
  | succ k ih => have h1 := ih fun i hi => h i (by omega); have h2 := h k (by omega); rw [sg, sg]; omega
theorem sg_ge {g : Nat → Nat} {k i : Nat} (hi : i < k) : g i ≤ sg g k := by
  induction k with
  | zero => omega
  | succ k ih =>
    rw [sg]
    by_cases e : i = k
    · subst e; omega
    · have := ih (by omega); omega
theorem sg_two {g : Nat → Nat} {k i j : Nat} (hi : i < j) (hj : j < k) : g i + g j ≤ sg g k := by
  induction k with
  | zero => omega
  | succ k ih =>
    rw [sg]
    by_cases e : j = k
    · subst e; have := sg_ge (g := g) hi; omega
    · have := ih (by omega); omega
theorem sg_pos {g : Nat → Nat} {k : Nat} (h : 0 < sg g k) : ∃ i, i < k ∧ 0 < g i := by
  induction k with
  | zero => exact absurd h (by simp [sg])
  | succ k ih =>
    rw [sg] at h
    by_cases e : 0 < g k
    · exact ⟨k, by omega, e⟩
    · obtain ⟨i, hi, h⟩ := ih (by omega); exact ⟨i, by omega, h⟩
theorem sg_none {g : Nat → Nat} {k : Nat} (h : ∀ i, i < k → g i = 0) : sg g k = 0 := by
  rw [sg_congr h, sg_zero]
theorem sg_only {g : Nat → Nat} {k i : Nat} (hi : i < k) (h : ∀ j, j < k → j ≠ i → g j = 0) : sg g k = g i := by
  induction k with
  | zero => omega
  | succ k ih =>
    rw [sg]
    by_cases e : i = k
    · subst e; rw [sg_none fun j hj => h j (by omega) (by omega)]; omega
    · rw [ih (by omega) (fun j hj => h j (by omega)), h k (by omega) (by omega)]; omega
theorem sg_uniq {g : Nat → Nat} {k i j : Nat} (h : sg g k ≤ 1) (hi : i < k) (hj : j < k) (h1 : 0 < g i) (h2 : 0 < g j) : i = j := by
  rcases Nat.lt_trichotomy i j with e | e | e
  · have := sg_two (g := g) e hj; omega
  · exact e
  · have := sg_two (g := g) e hi; omega
def bn (b : Bool) : Nat := if b = true then 1 else 0
theorem bn_le (b : Bool) : bn b ≤ 1 := by unfold bn; split <;> omega
theorem bn_and (a b : Bool) : bn (a && b) = bn a * bn b := by cases a <;> cases b <;> rfl
theorem bn_pos {b : Bool} : 0 < bn b ↔ b = true := by cases b <;> simp [bn]
theorem bn_t {b : Bool} (h : b = true) : bn b = 1 := by rw [h]; rfl
theorem bn_f {b : Bool} (h : b = false) : bn b = 0 := by rw [h]; rfl

/-- P points, m lines, K points on each line, one line through each two points, K K = P. -/
structure Inc (P m K : Nat) (I : Nat → Nat → Bool) : Prop where
  sq : K * K = P
  two : 2 ≤ K
  len : ∀ j, j < m → sg (fun x => bn (I j x)) P = K
  one : ∀ x y, x < P → y < P → x ≠ y → sg (fun j => bn (I j x && I j y)) m = 1
theorem Inc.repl {P m K : Nat} {I : Nat → Nat → Bool} (h : Inc P m K I) {x : Nat} (hx : x < P) : sg (fun j => bn (I j x)) m = K + 1 := by
  obtain ⟨r, hr⟩ : ∃ r, r = sg (fun j => bn (I j x)) m := ⟨_, rfl⟩
  rw [← hr]
  have e1 : sg (fun y => sg (fun j => bn (I j x && I j y)) m) P = K * r := by
    rw [sg_swap (fun j y => bn (I j x && I j y)), sg_congr (g := fun j => bn (I j x) * K) (fun j hj => by
      rw [sg_congr (g := fun y => bn (I j x) * bn (I j y)) (fun y _ => bn_and _ _), sg_mul, h.len j hj]), sg_mulr, ← hr, Nat.mul_comm]
  have e2 : sg (fun y => sg (fun j => bn (I j x && I j y)) m + (if y = x then 1 else 0)) P = sg (fun y => 1 + (if y = x then r else 0)) P := sg_congr fun y hy => by
    by_cases e : y = x
    · subst e
      rw [if_pos rfl, if_pos rfl, sg_congr (g := fun j => bn (I j y)) (fun j _ => by rw [Bool.and_self]), ← hr]; omega
    · rw [if_neg e, if_neg e, h.one x y hx hy (fun e' => e e'.symm)]
  rw [sg_add, sg_add, e1, sg_const, sg_only (g := fun y => if y = x then 1 else 0) hx (fun j _ hj => if_neg hj), sg_only (g := fun y => if y = x then r else 0) hx (fun j _ hj => if_neg hj), if_pos rfl, if_pos rfl] at e2
  have h2 := h.two
  obtain ⟨k, rfl⟩ : ∃ k, K = k + 1 := ⟨K - 1, by omega⟩
  have e3 : k * r = k * (k + 1 + 1) := by
    have h3 := h.sq
    have e4 : (k + 1) * r = k * r + r := Nat.succ_mul ..
    have e5 : (k + 1) * (k + 1) = k * (k + 1) + (k + 1) := Nat.succ_mul ..
    have e6 : k * (k + 1 + 1) = k * (k + 1) + k := Nat.mul_succ ..
    omega
  exact Nat.eq_of_mul_eq_mul_left (by omega) e3
/-- How many points two lines have in common. -/
def mtN (I : Nat → Nat → Bool) (P i j : Nat) : Nat := sg (fun y => bn (I i y && I j y)) P
theorem mtN_comm (I : Nat → Nat → Bool) (P i j : Nat) : mtN I P i j = mtN I P j i := sg_congr fun y _ => by rw [Bool.and_comm]
theorem Inc.uniq {P m K : Nat} {I : Nat → Nat → Bool} (h : Inc P m K I) {x y i j : Nat} (hx : x < P) (hy : y < P) (hne : x ≠ y) (hi : i < m) (hj : j < m) (i1 : I i x = true) (i2 : I i y = true) (j1 : I j x = true) (j2 : I j y = true) : i = j :=
  sg_uniq (g := fun j => bn (I j x && I j y)) (by rw [h.one x y hx hy hne]; omega) hi hj (bn_pos.2 (by rw [i1, i2]; rfl)) (bn_pos.2 (by rw [j1, j2]; rfl))
theorem Inc.meet {P m K : Nat} {I : Nat → Nat → Bool} (h : Inc P m K I) {i j : Nat} (hi : i < m) (hj : j < m) (hne : i ≠ j) : mtN I P i j ≤ 1 := by
  by_cases e : mtN I P i j = 0
  · omega
  · obtain ⟨x, hx, h1⟩ := sg_pos (g := fun y => bn (I i y && I j y)) (show 0 < sg (fun y => bn (I i y && I j y)) P by unfold mtN at e; omega)
    have hb := bn_pos.1 h1
    rw [Bool.and_eq_true] at hb
    unfold mtN
    rw [sg_only (g := fun y => bn (I i y && I j y)) hx fun y hy hne2 => bn_f (by
      rcases e2 : I i y && I j y with _ | _
      · rfl
      · rw [Bool.and_eq_true] at e2
        exact absurd (h.uniq hx hy (fun e' => hne2 e'.symm) hi hj hb.1 e2.1 hb.2 e2.2) hne)]
    exact bn_le _
/-- Two lines without a common point. -/
def dj (I : Nat → Nat → Bool) (P i j : Nat) : Bool := decide (mtN I P i j = 0)
theorem dj_comm (I : Nat → Nat → Bool) (P i j : Nat) : dj I P i j = dj I P j i := by unfold dj; rw [mtN_comm]
theorem dj_t {I : Nat → Nat → Bool} {P i j : Nat} : dj I P i j = true ↔ ∀ y, y < P → I i y = true → I j y = true → False := by
  unfold dj
  rw [decide_eq_true_eq]
  constructor
  · intro h y hy h1 h2
    have := sg_ge (g := fun y => bn (I i y && I j y)) hy
    unfold mtN at h
    rw [h, h1, h2] at this
    simp [bn] at this
  · intro h
    exact sg_none fun y hy => bn_f (by
      rcases e : I i y && I j y with _ | _
      · rfl
      · rw [Bool.and_eq_true] at e; exact (h y hy e.1 e.2).elim)
theorem Inc.par {P m K : Nat} {I : Nat → Nat → Bool} (h : Inc P m K I) {i x : Nat} (hi : i < m) (hx : x < P) (hno : I i x = false) : sg (fun j => bn (I j x && dj I P i j)) m = 1 := by
  have e1 := h.repl hx
  have e2 : sg (fun j => bn (I j x)) m = sg (fun j => bn (I j x && dj I P i j) + bn (I j x) * mtN I P i j) m := sg_congr fun j hj => by
    rcases e : I j x with _ | _
    · simp [bn]
    · have hne : i ≠ j := fun e' => by subst e'; rw [e] at hno; cases hno
      have := h.meet hi hj hne
      rw [Bool.true_and]
      unfold dj
      by_cases e3 : mtN I P i j = 0
      · rw [e3, bn_t rfl, bn_t (b := decide ((0 : Nat) = 0)) rfl]
      · rw [bn_t rfl, bn_f (decide_eq_false e3)]; omega
  have e3 : sg (fun j => bn (I j x) * mtN I P i j) m = K := by
    have : sg (fun j => bn (I j x) * mtN I P i j) m = sg (fun j => sg (fun y => bn (I i y) * bn (I j x && I j y)) P) m := sg_congr fun j _ => by
      unfold mtN
      rw [← sg_mul]
      exact sg_congr fun y _ => by rw [bn_and, bn_and, Nat.mul_left_comm]
    rw [this, sg_swap (fun y j => bn (I i y) * bn (I j x && I j y)), sg_congr (g := fun y => bn (I i y)) (fun y hy => by
      rw [sg_mul]
      rcases e : I i y with _ | _
      · simp [bn]
      · rw [h.one x y hx hy (fun e' => by subst e'; rw [e] at hno; cases hno)]; omega), h.len i hi]
  rw [sg_add, e3, e1] at e2
  omega
theorem Inc.trans {P m K : Nat} {I : Nat → Nat → Bool} (h : Inc P m K I) {i j k : Nat} (hi : i < m) (hj : j < m) (hk : k < m) (h1 : dj I P i j = true) (h2 : dj I P j k = true) (hne : i ≠ k) : dj I P i k = true := by
  refine dj_t.2 fun x hx hix hkx => hne ?_
  have hno : I j x = false := by
    rcases e : I j x with _ | _
    · rfl
    · exact (dj_t.1 h1 x hx hix e).elim
  refine sg_uniq (g := fun t => bn (I t x && dj I P j t)) (by rw [h.par hj hx hno]; omega) hi hk (bn_pos.2 ?_) (bn_pos.2 ?_)
  · rw [hix, dj_comm, h1]; rfl
  · rw [hkx, h2]; rfl
theorem Inc.par_some {P m K : Nat} {I : Nat → Nat → Bool} (h : Inc P m K I) {i x : Nat} (hi : i < m) (hx : x < P) (hno : I i x = false) : ∃ j, j < m ∧ I j x = true ∧ dj I P i j = true := by
  obtain ⟨j, hj, h1⟩ := sg_pos (g := fun j => bn (I j x && dj I P i j)) (by rw [h.par hi hx hno]; omega)
  have := bn_pos.1 h1
  rw [Bool.and_eq_true] at this
  exact ⟨j, hj, this⟩
/-- Not parallel to itself. -/
theorem Inc.dj_self {P m K : Nat} {I : Nat → Nat → Bool} (h : Inc P m K I) {i : Nat} (hi : i < m) : dj I P i i = false := by
  rcases e : dj I P i i with _ | _
  · rfl
  · have h1 := h.len i hi
    have h2 := h.two
    obtain ⟨x, hx, h3⟩ := sg_pos (g := fun x => bn (I i x)) (k := P) (by omega)
    exact (dj_t.1 e x hx (bn_pos.1 h3) (bn_pos.1 h3)).elim
end Go.Proofs.Ytamklliaibfljaa
