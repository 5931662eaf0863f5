/-
  Schedules: the pairs of the rounds, what they mark, and how the marks are counted. Plain lists, no program in sight. Conditions: those of each theorem.
-/
import Derived.Test.YtamklliaibfljaaTri
import Derived.Test.YtamklliaibfljaaMat
import Derived.Test.YtamklliaibfljaaCmp
import Derived.Test.YtamklliaibfljaaRise
namespace Go.Proofs.Ytamklliaibfljaa
set_option linter.unusedVariables false
set_option linter.unusedSimpArgs false

/-- Pair i of round r. -/
def pr (x : List (List (List Int))) (r i : Nat) : List Int := row (pln x r) i
def pA (x : List (List (List Int))) (r i : Nat) : Nat := (nth (pr x r i) 0).toNat
def pB (x : List (List (List Int))) (r i : Nat) : Nat := (nth (pr x r i) 1).toNat
/-- Whether a team plays in one of the first pairs of a round. -/
def bsy (x : List (List (List Int))) (r : Nat) : Nat → Nat → Bool
  | 0, _ => false
  | i + 1, t => bsy x r i t || (t == pA x r i || t == pB x r i)
/-- The pairs that have met, behind i pairs of round r. -/
def metIn (f : Nat → Nat → Int) (x : List (List (List Int))) (r : Nat) : Nat → Nat → Nat → Int
  | 0 => f
  | i + 1 => upd (metIn f x r i) (pA x r i) (pB x r i) 1
def metAll (x : List (List (List Int))) : Nat → Nat → Nat → Int
  | 0 => fun _ _ => 0
  | r + 1 => metIn (metAll x r) x r (pln x r).length
def pairOk (n : Int) (x : List (List (List Int))) (r i : Nat) : Prop :=
  (pr x r i).length = 2 ∧ (0 ≤ nth (pr x r i) 0 ∧ nth (pr x r i) 0 < nth (pr x r i) 1 ∧ nth (pr x r i) 1 ≤ n - 1) ∧ (0 < i → cmpL (pr x r (i - 1)) (pr x r i) < 0) ∧
  (bsy x r i (pA x r i) = false ∧ bsy x r i (pB x r i) = false ∧ metIn (metAll x r) x r i (pA x r i) (pB x r i) = 0)
instance (n : Int) (x : List (List (List Int))) (r i : Nat) : Decidable (pairOk n x r i) := by unfold pairOk; infer_instance
def rndOk (n : Int) (x : List (List (List Int))) (r k : Nat) : Prop := ∀ i, i < k → pairOk n x r i
def rndsOk (n : Int) (x : List (List (List Int))) (R : Nat) : Prop := ∀ r, r < R → rndOk n x r (pln x r).length
instance (n : Int) (x : List (List (List Int))) (r k : Nat) : Decidable (rndOk n x r k) := by unfold rndOk; infer_instance
instance (n : Int) (x : List (List (List Int))) (R : Nat) : Decidable (rndsOk n x R) := by unfold rndsOk; infer_instance
def allMet (x : List (List (List Int))) (m : Nat) : Prop := ∀ a, a < m → ∀ b, b < m → a < b → metAll x x.length a b ≠ 0
instance (x : List (List (List Int))) (m : Nat) : Decidable (allMet x m) := by unfold allMet; infer_instance
def schOk (n : Int) (x : List (List (List Int))) : Prop := (2 ≤ n ∧ n ≤ 32) ∧ rndsOk n x x.length ∧ allMet x n.toNat
instance (n : Int) (x : List (List (List Int))) : Decidable (schOk n x) := by unfold schOk; infer_instance
def schB (n : Int) (x : List (List (List Int))) : Bool := decide (schOk n x)

theorem rndOk_succ {n : Int} {x : List (List (List Int))} {r k : Nat} (h : rndOk n x r k) (hk : pairOk n x r k) : rndOk n x r (k + 1) := fun i hi => by
  by_cases e : i = k
  · subst e; exact hk
  · exact h i (by omega)
theorem rndsOk_succ {n : Int} {x : List (List (List Int))} {R : Nat} (h : rndsOk n x R) (hk : rndOk n x R (pln x R).length) : rndsOk n x (R + 1) := fun i hi => by
  by_cases e : i = R
  · subst e; exact hk
  · exact h i (by omega)

/-! ### Counting the marks -/
def s1 (f : Nat → Nat → Int) (b : Nat) : Nat → Int
  | 0 => 0
  | k + 1 => s1 f b k + f k b
def s2 (f : Nat → Nat → Int) : Nat → Int
  | 0 => 0
  | m + 1 => s2 f m + s1 f m m
def trn : Nat → Int
  | 0 => 0
  | m + 1 => trn m + m
theorem trn_two (m : Nat) : 2 * trn m = (m : Int) * ((m : Int) - 1) := by
  induction m with
  | zero => simp [trn]
  | succ m ih =>
    rw [trn, Int.mul_add, ih]
    rw [show ((m + 1 : Nat) : Int) - 1 = (m : Int) by omega, show ((m + 1 : Nat) : Int) = (m : Int) + 1 by omega, Int.mul_sub, Int.add_mul]
    omega
theorem s1_upd (f : Nat → Nat → Int) (a b b' k : Nat) (h : f a b = 0) : s1 (upd f a b 1) b' k = s1 f b' k + if b' = b ∧ a < k then 1 else 0 := by
  induction k with
  | zero => rw [if_neg (by omega)]; rfl
  | succ k ih =>
    rw [s1, s1, ih]
    have hu : upd f a b 1 k b' = if k = a ∧ b' = b then 1 else f k b' := rfl
    rw [hu]
    by_cases e : k = a ∧ b' = b
    · have e1 := e.1
      have e2 := e.2
      subst e1 e2
      rw [if_pos (c := k = k ∧ b' = b') ⟨rfl, rfl⟩, if_neg (c := b' = b' ∧ k < k) (by omega), if_pos (c := b' = b' ∧ k < k + 1) ⟨rfl, by omega⟩, h]
    · rw [if_neg e]
      by_cases e2 : b' = b ∧ a < k
      · rw [if_pos e2, if_pos (c := b' = b ∧ a < k + 1) ⟨e2.1, by omega⟩]; omega
      · rw [if_neg e2, if_neg (c := b' = b ∧ a < k + 1) (by omega)]; omega
theorem s2_upd (f : Nat → Nat → Int) (a b m : Nat) (h : f a b = 0) (hab : a < b) : s2 (upd f a b 1) m = s2 f m + if b < m then 1 else 0 := by
  induction m with
  | zero => rw [if_neg (by omega)]; rfl
  | succ m ih =>
    rw [s2, s2, ih, s1_upd f a b m m h]
    by_cases e : b = m
    · subst e
      rw [if_neg (by omega), if_pos ⟨rfl, hab⟩, if_pos (by omega)]
      omega
    · rw [if_neg (c := m = b ∧ a < m) (by omega)]
      by_cases e2 : b < m
      · rw [if_pos e2, if_pos (by omega)]; omega
      · rw [if_neg e2, if_neg (by omega)]; omega
/-- Marks are 0 or 1. -/
def Bit (f : Nat → Nat → Int) : Prop := ∀ a b, f a b = 0 ∨ f a b = 1
theorem Bit.upd {f : Nat → Nat → Int} (h : Bit f) (i j : Nat) : Bit (upd f i j 1) := fun a b => by
  unfold Go.Proofs.Ytamklliaibfljaa.upd
  split
  · exact .inr rfl
  · exact h a b
theorem Bit.zero : Bit (fun _ _ => 0) := fun _ _ => .inl rfl
theorem s1_le {f : Nat → Nat → Int} (h : Bit f) (b k : Nat) : s1 f b k ≤ k ∧ (s1 f b k = k ↔ ∀ a, a < k → f a b ≠ 0) := by
  induction k with
  | zero => exact ⟨Int.le_refl _, fun _ a ha => absurd ha (by omega), fun _ => rfl⟩
  | succ k ih =>
    obtain ⟨h1, h2⟩ := ih
    have h3 := h k b
    rw [s1]
    refine ⟨by omega, fun e a ha => ?_, fun e => ?_⟩
    · by_cases e2 : a = k
      · subst e2; omega
      · exact h2.1 (by omega) a (by omega)
    · have h4 := h2.2 fun a ha => e a (by omega)
      have h5 := e k (by omega)
      omega
theorem s2_le {f : Nat → Nat → Int} (h : Bit f) (m : Nat) : s2 f m ≤ trn m ∧ (s2 f m = trn m ↔ ∀ a, a < m → ∀ b, b < m → a < b → f a b ≠ 0) := by
  induction m with
  | zero => exact ⟨Int.le_refl _, fun _ a ha => absurd ha (by omega), fun _ => rfl⟩
  | succ m ih =>
    obtain ⟨h1, h2⟩ := ih
    obtain ⟨h3, h4⟩ := s1_le h m m
    rw [s2, trn]
    refine ⟨by omega, fun e a ha b hb hab => ?_, fun e => ?_⟩
    · by_cases e2 : b = m
      · subst e2; exact h4.1 (by omega) a hab
      · exact h2.1 (by omega) a (by omega) b (by omega) hab
    · have h5 := h2.2 fun a ha b hb hab => e a (by omega) b (by omega) hab
      have h6 := h4.2 fun a ha => e a (by omega) m (by omega) ha
      omega

/-- Pairs of the first rounds, counted. -/
def cntR (x : List (List (List Int))) : Nat → Nat
  | 0 => 0
  | r + 1 => cntR x r + (pln x r).length
theorem metIn_bit {f : Nat → Nat → Int} (h : Bit f) (x : List (List (List Int))) (r i : Nat) : Bit (metIn f x r i) := by
  induction i with
  | zero => exact h
  | succ i ih => exact ih.upd _ _
theorem metAll_bit (x : List (List (List Int))) (r : Nat) : Bit (metAll x r) := by
  induction r with
  | zero => exact Bit.zero
  | succ r ih => exact metIn_bit ih _ _ _
theorem pair_ab {n : Int} {x : List (List (List Int))} {r i : Nat} (h : pairOk n x r i) : pA x r i < pB x r i ∧ (pB x r i : Int) < n ∧ nth (pr x r i) 0 = (pA x r i : Int) ∧ nth (pr x r i) 1 = (pB x r i : Int) := by
  obtain ⟨_, ⟨h1, h2, h3⟩, _⟩ := h
  unfold pA pB
  omega
theorem met_cnt {n : Int} {x : List (List (List Int))} {r k : Nat} (h1 : s2 (metAll x r) n.toNat = (cntR x r : Int)) (h2 : rndOk n x r k) : s2 (metIn (metAll x r) x r k) n.toNat = (cntR x r : Int) + k := by
  induction k with
  | zero => simpa [metIn] using h1
  | succ k ih =>
    have h3 := h2 k (by omega)
    have h4 := pair_ab h3
    rw [metIn, s2_upd _ _ _ _ h3.2.2.2.2.2 h4.1, ih (fun i hi => h2 i (by omega)), if_pos (by omega)]
    omega
theorem met_cntR {n : Int} {x : List (List (List Int))} {R : Nat} (h : rndsOk n x R) : s2 (metAll x R) n.toNat = (cntR x R : Int) := by
  induction R with
  | zero =>
    show s2 (fun _ _ => 0) n.toNat = 0
    have : ∀ b k, s1 (fun _ _ => 0) b k = 0 := fun b k => by induction k with | zero => rfl | succ k ih => rw [s1, ih]; rfl
    induction n.toNat with
    | zero => rfl
    | succ m ih => rw [s2, ih, this]; rfl
  | succ R ih =>
    have h1 := ih (fun r hr => h r (by omega))
    have h2 := met_cnt h1 (h R (by omega))
    rw [metAll, h2, cntR]
    omega
/-- The reference counts pairs; the program looks at the marks. -/
theorem cnt_allMet {n : Int} {x : List (List (List Int))} (hn : 2 ≤ n) (h : rndsOk n x x.length) : (cntR x x.length : Int) = (n * (n - 1)).tdiv 2 ↔ allMet x n.toNat := by
  have h1 := met_cntR h
  obtain ⟨h2, h3⟩ := s2_le (metAll_bit x x.length) n.toNat
  have h4 := trn_two n.toNat
  rw [show (n.toNat : Int) = n by omega] at h4
  have h5 : (n * (n - 1)).tdiv 2 = trn n.toNat := by rw [← h4]; exact Int.mul_tdiv_cancel_left _ (by omega)
  rw [h5, ← h1]
  exact h3
theorem cntR_le (x : List (List (List Int))) (R : Nat) (hR : R ≤ x.length) : cntR x R ≤ wgt x := by
  have : cntR x R ≤ wgt (x.take R) := by
    induction R with
    | zero => exact Nat.zero_le _
    | succ R ih => rw [wgt_take_succ (by omega), cntR]; have := ih (by omega); omega
  exact Nat.le_trans this (wgt_take_le _ _)
/-- A round lists each team once at most: with n ≤ 32 no round is long, and no two rounds hold one pair. -/
theorem rnd_len {n : Int} {x : List (List (List Int))} {r k : Nat} (h : rndOk n x r k) (hB : Bit (metAll x r)) (hl : s2 (metAll x r) n.toNat = (cntR x r : Int)) : (cntR x r : Int) + k ≤ trn n.toNat := by
  rw [← met_cnt hl h]
  exact (s2_le (metIn_bit hB _ _ _) _).1
end Go.Proofs.Ytamklliaibfljaa
