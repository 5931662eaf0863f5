/-
  Difference tables: l13Set, l13Ok, l13Table of the reference; areBases, differenceTable of the program. Conditions: those of each theorem.
-/
import Derived.Test.YtmmkmkbpgcbehaaGreatGa
namespace Go.Proofs.YtmmkmkbpgcbehaaGreat
open Go.RowKit
set_option linter.unusedVariables false
set_option linter.unusedSimpArgs false

theorem RdI.open0 {w : World} {A : Option Addr} {c : Nat} {xs : List Int} (h : RdI w A c xs) (hn : 0 < xs.length) :
    ∃ b off, A = some ⟨b, off, none⟩ ∧ b < w.heap.size ∧ ∀ k, k < xs.length → w.cell? ⟨b, off + k, none⟩ = some (.int .i64 (nth xs k)) := by
  obtain ⟨b, off, rfl, hb, _⟩ := h.at_ 0 hn
  refine ⟨b, off, rfl, hb, fun k hk => ?_⟩
  obtain ⟨b', off', e, _, hc⟩ := h.at_ k hk
  injection e with e
  injection e with e1 e2
  subst e1 e2
  exact hc

def incAt (t : List Int) (i : Nat) : List Int := t.set i (nth t i + 1)
def difAt (n : Nat) (x y : Int) : Nat := ((x - y + (n : Int)) % (n : Int)).toNat
def incB (n : Nat) (s : List Int) (a : Nat) : Nat → List Int → List Int
  | 0, t => t
  | b + 1, t => if a = b then incB n s a b t else incAt (incB n s a b t) (difAt n (nth s a) (nth s b))
def incA (n : Nat) (s : List Int) : Nat → List Int → List Int
  | 0, t => t
  | a + 1, t => incB n s a s.length (incA n s a t)
def incS (n : Nat) (sets : List (List Int)) : Nat → List Int
  | 0 => List.replicate n 0
  | i + 1 => incA n (row sets i) (row sets i).length (incS n sets i)

/-- All entries from 0 to C. -/
def Upto (t : List Int) (C : Int) : Prop := ∀ j, 0 ≤ nth t j ∧ nth t j ≤ C
theorem nth_set (t : List Int) (i j : Nat) (v : Int) : nth (t.set i v) j = if i = j ∧ j < t.length then v else nth t j := by
  unfold nth
  rw [List.getElem?_set]
  by_cases e : i = j
  · subst e
    by_cases h : i < t.length
    · simp [h]
    · simp [h]
  · simp [e]
theorem Upto.inc {t : List Int} {C : Int} (h : Upto t C) (i : Nat) : Upto (incAt t i) (C + 1) := fun j => by
  have h1 := h j
  have h2 := h i
  unfold incAt
  rw [nth_set]
  split <;> omega
theorem Upto.more {t : List Int} {C D : Int} (h : Upto t C) (hd : C ≤ D) : Upto t D := fun j => by have := h j; omega
theorem Upto.b {n : Nat} {s : List Int} {a : Nat} {t : List Int} {C : Int} (h : Upto t C) : ∀ b : Nat, Upto (incB n s a b t) (C + b)
  | 0 => by simpa [incB] using h
  | b + 1 => by
    have ih := Upto.b (n := n) (s := s) (a := a) h b
    rw [incB]
    split
    · exact ih.more (by omega)
    · exact (ih.inc _).more (by omega)
theorem Upto.a {n : Nat} {s : List Int} {t : List Int} {C : Int} (h : Upto t C) (hs : s.length ≤ 32) : ∀ a : Nat, Upto (incA n s a t) (C + 32 * a)
  | 0 => by simpa [incA] using h
  | a + 1 => by
    have ih := Upto.a (n := n) (s := s) h hs a
    exact (Upto.b (n := n) (s := s) (a := a) ih s.length).more (by omega)
theorem Upto.s {n : Nat} {sets : List (List Int)} (hs : ∀ i, i < sets.length → (row sets i).length ≤ 32) : ∀ i : Nat, i ≤ sets.length → Upto (incS n sets i) (1024 * i)
  | 0, _ => fun j => by simp only [incS, nth, List.getElem?_replicate]; split <;> simp
  | i + 1, hi => by
    have ih := Upto.s (n := n) hs i (by omega)
    have h1 := hs i (by omega)
    exact (Upto.a (n := n) (s := row sets i) ih h1 (row sets i).length).more (by omega)
theorem length_incB (n : Nat) (s : List Int) (a : Nat) (t : List Int) : ∀ b, (incB n s a b t).length = t.length
  | 0 => rfl
  | b + 1 => by
    rw [incB]
    split
    · exact length_incB n s a t b
    · rw [incAt, List.length_set]; exact length_incB n s a t b
theorem length_incA (n : Nat) (s : List Int) (t : List Int) : ∀ a, (incA n s a t).length = t.length
  | 0 => rfl
  | a + 1 => by rw [incA, length_incB, length_incA n s t a]
theorem length_incS (n : Nat) (sets : List (List Int)) : ∀ i, (incS n sets i).length = n
  | 0 => by simp [incS]
  | i + 1 => by rw [incS, length_incA, length_incS n sets i]

theorem rise_ge {hi : Int} {xs : List Int} {k : Nat} (h : RiseTo 0 hi xs k) : ∀ j, j < k → (j : Int) ≤ nth xs j
  | 0, hj => by have := (h 0 hj).1.1; omega
  | j + 1, hj => by
    have h1 := (h (j + 1) hj).2 (by omega)
    have h2 := rise_ge h j (by omega)
    rw [Nat.add_sub_cancel] at h1
    omega
theorem rise_len {n : Int} {xs : List Int} (h : RiseTo 0 (n - 1) xs xs.length) (hn : 0 ≤ n) : (xs.length : Int) ≤ n := by
  rcases Nat.eq_zero_or_pos xs.length with h0 | h0
  · omega
  · have h1 := rise_ge h (xs.length - 1) (by omega)
    have h2 := (h (xs.length - 1) (by omega)).1.2
    omega
theorem rise_lt {lo hi : Int} {xs : List Int} {k : Nat} (h : RiseTo lo hi xs k) {i : Nat} : ∀ j, j < k → i < j → nth xs i < nth xs j
  | 0, _, hij => absurd hij (by omega)
  | j + 1, hj, hij => by
    have h1 := (h (j + 1) hj).2 (by omega)
    rw [Nat.add_sub_cancel] at h1
    by_cases e : i = j
    · subst e; exact h1
    · have := rise_lt h j (by omega) (i := i) (by omega)
      omega
theorem rise_ne {lo hi : Int} {xs : List Int} {k : Nat} (h : RiseTo lo hi xs k) {i j : Nat} (hi' : i < k) (hj : j < k) (hne : i ≠ j) : nth xs i ≠ nth xs j := by
  rcases Nat.lt_or_gt_of_ne hne with hlt | hlt
  · have := rise_lt h j hj hlt; omega
  · have := rise_lt h i hi' hlt; omega
theorem dif_facts {n : Nat} {x y : Int} (hn : 1 ≤ n) (hn2 : n ≤ 32) (hx : 0 ≤ x ∧ x ≤ (n : Int) - 1) (hy : 0 ≤ y ∧ y ≤ (n : Int) - 1) :
    (x - y + (n : Int)) % (n : Int) = (difAt n x y : Int) ∧ difAt n x y < n ∧ 0 ≤ x - y + (n : Int) ∧ x - y + (n : Int) ≤ 64 := by
  have h0 : 0 ≤ (x - y + (n : Int)) % (n : Int) := Int.emod_nonneg _ (by omega)
  have h1 : (x - y + (n : Int)) % (n : Int) < (n : Int) := Int.emod_lt_of_pos _ (by omega)
  refine ⟨by unfold difAt; rw [Int.toNat_of_nonneg h0], by unfold difAt; omega, by omega, by omega⟩

/-- What base blocks have to be. -/
def SetsOk (n : Nat) (sets : List (List Int)) : Prop := 1 ≤ n ∧ n ≤ 32 ∧ ∀ i, i < sets.length → RiseTo 0 ((n : Int) - 1) (row sets i) (row sets i).length ∧ 0 < (row sets i).length
theorem SetsOk.len {n : Nat} {sets : List (List Int)} (h : SetsOk n sets) {i : Nat} (hi : i < sets.length) : (row sets i).length ≤ 32 := by
  have := rise_len (n := (n : Int)) (h.2.2 i hi).1 (by omega)
  have := h.2.1
  omega

end Go.Proofs.YtmmkmkbpgcbehaaGreat
