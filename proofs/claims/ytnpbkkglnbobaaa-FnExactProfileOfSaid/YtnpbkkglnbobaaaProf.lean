/-
  ProfileOf: the counts, their bounds, and the small functions. Conditions: those of each theorem.
-/
import Derived.Test.YtnpbkkglnbobaaaProfP
import Derived.Test.YtnpbkkglnbobaaaNext
import Derived.Test.YtnpbkkglnbobaaaPairsP
import Derived.Test.YtnpbkkglnbobaaaHad2
namespace Go.Proofs.Ytnpbkkglnbobaaa
open Go.RowKit
set_option linter.unusedVariables false
set_option linter.unusedSimpArgs false

def pfT (h : List (List Int)) (a b c d k : Nat) : Int := nth (row h a) k * nth (row h b) k * nth (row h c) k * nth (row h d) k
def pfS (h : List (List Int)) (a b c d : Nat) : Nat → Int
  | 0 => 0
  | k + 1 => pfS h a b c d k + pfT h a b c d k
def pfF (h : List (List Int)) (n a b c : Nat) (s : List Int) (d : Nat) : List Int := s.set (pfS h a b c d n).natAbs (nth s (pfS h a b c d n).natAbs + 1)

theorem pm_mul4 {x y z u : Int} (hx : x = 1 ∨ x = -1) (hy : y = 1 ∨ y = -1) (hz : z = 1 ∨ z = -1) (hu : u = 1 ∨ u = -1) : (x * y * z * u = 1 ∨ x * y * z * u = -1) ∧ (x * y * z = 1 ∨ x * y * z = -1) ∧ (x * y = 1 ∨ x * y = -1) := by
  rcases hx with rfl | rfl <;> rcases hy with rfl | rfl <;> rcases hz with rfl | rfl <;> rcases hu with rfl | rfl <;> decide
theorem pfS_bd {h : List (List Int)} {n : Nat} (hv : ∀ x, x < n → ∀ k, k < n → nth (row h x) k = 1 ∨ nth (row h x) k = -1) {a b c d : Nat} (ha : a < n) (hb : b < n) (hc : c < n) (hd : d < n) {k : Nat} (hk : k ≤ n) :
    -(k : Int) ≤ pfS h a b c d k ∧ pfS h a b c d k ≤ k := by
  induction k with
  | zero => simp [pfS]
  | succ k ih =>
    have h1 := ih (by omega)
    have h2 := (pm_mul4 (hv a ha k (by omega)) (hv b hb k (by omega)) (hv c hc k (by omega)) (hv d hd k (by omega))).1
    rw [pfS, pfT]
    omega

/-- Counts of length l, each between 0 and B. -/
def Cnt (l : Nat) (B : Nat) (s : List Int) : Prop := s.length = l ∧ ∀ j, 0 ≤ nth s j ∧ nth s j ≤ B
theorem Cnt.bump {l B : Nat} {s : List Int} (h : Cnt l B s) (j : Nat) : Cnt l (B + 1) (s.set j (nth s j + 1)) := by
  refine ⟨by rw [List.length_set, h.1], fun i => ?_⟩
  have h1 := h.2 i
  have h2 := h.2 j
  by_cases e : i = j
  · subst e
    by_cases hi : i < s.length
    · rw [show nth (s.set i (nth s i + 1)) i = nth s i + 1 by simp [nth, hi]]; omega
    · rw [List.set_eq_of_length_le (by omega)]; omega
  · rw [show nth (s.set j (nth s j + 1)) i = nth s i by simp [nth, List.getElem?_set_ne (fun e' => e e'.symm)]]; omega
theorem Cnt.its {l K : Nat} {g : List Int → Nat → List Int} (hg : ∀ B s d, Cnt l B s → Cnt l (B + K) (g s d)) {B : Nat} {s : List Int} (h : Cnt l B s) (lo m : Nat) : Cnt l (B + m * K) (its g lo m s) := by
  induction m with
  | zero => simpa [Go.Proofs.Ytnpbkkglnbobaaa.its] using h
  | succ m ih =>
    rw [Go.Proofs.Ytnpbkkglnbobaaa.its]
    have := hg _ _ (lo + m) ih
    rw [show B + (m + 1) * K = B + m * K + K by rw [Nat.succ_mul]; omega]
    exact this
theorem Cnt.mono {l B B' : Nat} {s : List Int} (h : Cnt l B s) (hb : B ≤ B') : Cnt l B' s := ⟨h.1, fun j => by have := h.2 j; omega⟩
theorem Cnt.its16 {l K : Nat} {g : List Int → Nat → List Int} (hg : ∀ B s d, Cnt l B s → Cnt l (B + K) (g s d)) {B : Nat} {s : List Int} (h : Cnt l B s) (lo m : Nat) (hm : m ≤ 16) : Cnt l (B + 16 * K) (Go.Proofs.Ytnpbkkglnbobaaa.its g lo m s) :=
  (h.its hg lo m).mono (Nat.add_le_add_left (Nat.mul_le_mul_right K hm) B)
theorem cnt_D {h : List (List Int)} {n l : Nat} (hn : n ≤ 16) (a b c : Nat) {B : Nat} {s : List Int} (hs : Cnt l B s) : Cnt l (B + 16) (quD (pfF h n) n a b c s) :=
  Cnt.its16 (K := 1) (fun _ _ _ h => h.bump _) hs _ _ (by omega)
theorem cnt_C {h : List (List Int)} {n l : Nat} (hn : n ≤ 16) (a b : Nat) {B : Nat} {s : List Int} (hs : Cnt l B s) : Cnt l (B + 256) (quC (pfF h n) n a b s) :=
  Cnt.its16 (K := 16) (fun _ _ _ h => cnt_D hn _ _ _ h) hs _ _ (by omega)
theorem cnt_B {h : List (List Int)} {n l : Nat} (hn : n ≤ 16) (a : Nat) {B : Nat} {s : List Int} (hs : Cnt l B s) : Cnt l (B + 4096) (quB (pfF h n) n a s) :=
  Cnt.its16 (K := 256) (fun _ _ _ h => cnt_C hn _ _ h) hs _ _ (by omega)
theorem cnt_bfA {h : List (List Int)} {n l : Nat} (hn : n ≤ 16) {a : Nat} (ha : a ≤ n) {B : Nat} {s : List Int} (hs : Cnt l B s) : Cnt l (B + 65536) (bfA (pfF h n) n s a) :=
  Cnt.its16 (K := 4096) (fun _ _ _ h => cnt_B hn _ h) hs _ _ (by omega)
theorem cnt_bfB {h : List (List Int)} {n l : Nat} (hn : n ≤ 16) {a b : Nat} (ha : a ≤ n) (hb : b ≤ n) {B : Nat} {s : List Int} (hs : Cnt l B s) : Cnt l (B + 69632) (bfB (pfF h n) n s a b) :=
  Cnt.its16 (K := 256) (fun _ _ _ h => cnt_C hn _ _ h) (cnt_bfA hn ha hs) _ _ (by omega)
theorem cnt_bfC {h : List (List Int)} {n l : Nat} (hn : n ≤ 16) {a b c : Nat} (ha : a ≤ n) (hb : b ≤ n) (hc : c ≤ n) {B : Nat} {s : List Int} (hs : Cnt l B s) : Cnt l (B + 69888) (bfC (pfF h n) n s a b c) :=
  Cnt.its16 (K := 16) (fun _ _ _ h => cnt_D hn _ _ _ h) (cnt_bfB hn ha hb hs) _ _ (by omega)
theorem cnt_bfD {h : List (List Int)} {n l : Nat} (hn : n ≤ 16) {a b c d : Nat} (ha : a ≤ n) (hb : b ≤ n) (hc : c ≤ n) (hd : d ≤ n) {B : Nat} {s : List Int} (hs : Cnt l B s) : Cnt l (B + 69904) (bfD (pfF h n) n s a b c d) :=
  Cnt.its16 (K := 1) (fun _ _ _ h => h.bump _) (cnt_bfC hn ha hb hc hs) _ _ (by omega)

theorem abs_c (w : World) (x : Int) (hx : -1000 ≤ x ∧ x ≤ 1000) : Calls Try.prog 67 #[.int .i64 x] w fun e w' => e = .returned (.int .i64 (x.natAbs : Int)) ∧ w = w' := by
  by_cases h0 : x < 0
  · have hd : decide (x < 0) = true := decide_eq_true h0
    rw [show (x.natAbs : Int) = -x by omega]
    go_enter Try.func67, Try.ntmps67
    go_wp2
    go_ret
    exact ⟨rfl, rfl⟩
  · have hd : decide (x < 0) = false := decide_eq_false h0
    rw [show (x.natAbs : Int) = x by omega]
    go_enter Try.func67, Try.ntmps67
    go_wp2
    go_ret
    exact ⟨rfl, rfl⟩
theorem l00Max_c (w : World) (x y : Int) (hx : -1000 ≤ x ∧ x ≤ 1000) (hy : y = -x) : Calls Try.prog 64 #[.int .i64 x, .int .i64 y] w fun e w' => e = .returned (.int .i64 (x.natAbs : Int)) ∧ w = w' := by
  have HY := Lib.hid hy
  by_cases h0 : y < x
  · have hd : decide (y < x) = true := decide_eq_true h0
    rw [show (x.natAbs : Int) = x by omega]
    clear hy
    go_enter Try.func64, Try.ntmps64
    go_wp2
    go_ret
    exact ⟨rfl, rfl⟩
  · have hd : decide (y < x) = false := decide_eq_false h0
    rw [show (x.natAbs : Int) = y by omega]
    clear hy
    go_enter Try.func64, Try.ntmps64
    go_wp2
    go_ret
    exact ⟨rfl, rfl⟩
end Go.Proofs.Ytnpbkkglnbobaaa
