/-
  RoundRobin of both sides. Conditions: those of each theorem.
-/
import Derived.Test.YtcdbbcnoleilfaaTri2
import Derived.Test.YtcdbbcnoleilfaaIns2
namespace Go.Proofs.Ytcdbbcnoleilfaa
open Go.RowKit
set_option linter.unusedVariables false
set_option linter.unusedSimpArgs false

def prL (a b : Nat) : List Int := [((min a b : Nat) : Int), ((max a b : Nat) : Int)]
/-- Round r behind k of its pairs, not yet sorted. -/
def rrTo (n m r k : Nat) : List (List Int) := (if n % 2 = 0 then [prL r (n - 1)] else []) ++ (List.range k).map fun j => prL ((r + (j + 1)) % m) ((r + m - (j + 1)) % m)
theorem rrTo_succ (n m r k : Nat) : rrTo n m r (k + 1) = rrTo n m r k ++ [prL ((r + (k + 1)) % m) ((r + m - (k + 1)) % m)] := by
  unfold rrTo
  rw [List.range_succ, List.map_append, ← List.append_assoc]
  rfl
theorem rrTo_len (n m r k : Nat) : (rrTo n m r k).length ≤ k + 1 := by
  unfold rrTo
  rw [List.length_append, List.length_map, List.length_range]
  split <;> simp <;> omega
theorem rrTo_two (n m r k : Nat) : ∀ p ∈ rrTo n m r k, p.length = 2 := by
  intro p hp
  unfold rrTo at hp
  rcases List.mem_append.1 hp with hp | hp
  · split at hp
    · rw [List.mem_singleton] at hp; subst hp; rfl
    · simp at hp
  · obtain ⟨j, _, e⟩ := List.mem_map.1 hp
    rw [← e]; rfl
def rsTo (n m k : Nat) : List (List (List Int)) := (List.range k).map fun r => sortLL (rrTo n m r ((m - 1) / 2))
theorem rsTo_len (n m k : Nat) : (rsTo n m k).length = k := by simp [rsTo]
theorem rsTo_succ (n m k : Nat) : rsTo n m (k + 1) = rsTo n m k ++ [sortLL (rrTo n m k ((m - 1) / 2))] := by simp [rsTo, List.range_succ]
def rmod (n : Nat) : Nat := n - 1 + n % 2
def rrL (n : Int) : List (List (List Int)) := if inB n 2 32 = true then rsTo n.toNat (rmod n.toNat) (rmod n.toNat) else []
def rrC (n : Int) : Int := if inB n 2 32 = true then 0 else 2
theorem tot_two {p : List (List Int)} (h : ∀ q ∈ p, q.length = 2) : tot p = 2 * p.length := by
  induction p with
  | nil => rfl
  | cons q p ih =>
    have h1 := ih (fun r hr => h r (List.mem_cons_of_mem _ hr))
    have h2 := h q (List.mem_cons_self ..)
    simp [tot] at *
    omega
theorem wgt_le {x : List (List (List Int))} {B : Nat} (h : ∀ p ∈ x, p.length + tot p ≤ B) : wgt x ≤ x.length * B := by
  induction x with
  | nil => simp [wgt]
  | cons p x ih =>
    have h1 := ih (fun r hr => h r (List.mem_cons_of_mem _ hr))
    have h2 := h p (List.mem_cons_self ..)
    rw [List.length_cons, Nat.succ_mul]
    simp [wgt] at *
    omega
theorem RoundRobin_small (n : Int) : (rrL n).length ≤ 1048576 ∧ wgt (rrL n) ≤ 1048576 := by
  unfold rrL
  split
  · next h =>
    have hn := inB_true.1 h
    have hm : rmod n.toNat ≤ 32 := by unfold rmod; omega
    rw [rsTo_len]
    refine ⟨by omega, ?_⟩
    have h1 := wgt_le (x := rsTo n.toNat (rmod n.toNat) (rmod n.toNat)) (B := 60) (fun p hp => by
      unfold rsTo at hp
      obtain ⟨r, _, e⟩ := List.mem_map.1 hp
      have h3 : ∀ q ∈ p, q.length = 2 := fun q hq => rrTo_two _ _ _ _ q (by rw [← e] at hq; exact (List.mergeSort_perm _ _).mem_iff.1 hq)
      have h4 : p.length ≤ (rmod n.toNat - 1) / 2 + 1 := by rw [← e, sortLL_len]; exact rrTo_len _ _ _ _
      rw [tot_two h3]
      omega)
    rw [rsTo_len] at h1
    have := Nat.mul_le_mul_right 60 hm
    omega
  · simp [wgt]

theorem OwnI.lit2 (w : World) (a b : Int) {lo : Nat} (h : lo ≤ w.heap.size) : OwnI (w.alloc (.cells #[.int .i64 a, .int .i64 b] 2)) lo (some ⟨w.heap.size, 0, none⟩) 2 [a, b] :=
  World.ownsRow_lit (e := 2) (size := 1) w #[.int .i64 a, .int .i64 b] 2 h (by unfold maxLen; omega) rfl
theorem l14Pair_c (w : World) (a b : Nat) (ha : a ≤ 1000) (hb : b ≤ 1000) : Calls Try.prog 76 #[.int .i64 (a : Int), .int .i64 (b : Int)] w (PostS w (prL a b)) := by
  by_cases h : a < b
  · have hd : decide ((a : Int) < (b : Int)) = true := by simp; omega
    rw [show prL a b = [(a : Int), (b : Int)] by unfold prL; rw [Nat.min_eq_left (by omega), Nat.max_eq_right (by omega)]]
    have HO := Lib.hid (OwnI.lit2 w (a : Int) (b : Int) (Nat.le_refl _))
    have HB := Lib.hid (Below.alloc (Below.refl w.heap.size w) (Nat.le_refl _) (.cells #[.int .i64 (a : Int), .int .i64 (b : Int)] 2))
    go_enter Try.func76, Try.ntmps76
    go_wp2
    go_ret
    exact ⟨⟨_, 2, 2, rfl, rfl, HO.out⟩, HB.out⟩
  · have hd : decide ((a : Int) < (b : Int)) = false := by simp; omega
    rw [show prL a b = [(b : Int), (a : Int)] by unfold prL; rw [Nat.min_eq_right (by omega), Nat.max_eq_left (by omega)]]
    have HO := Lib.hid (OwnI.lit2 w (b : Int) (a : Int) (Nat.le_refl _))
    have HB := Lib.hid (Below.alloc (Below.refl w.heap.size w) (Nat.le_refl _) (.cells #[.int .i64 (b : Int), .int .i64 (a : Int)] 2))
    go_enter Try.func76, Try.ntmps76
    go_wp2
    go_ret
    exact ⟨⟨_, 2, 2, rfl, rfl, HO.out⟩, HB.out⟩
theorem paired_c (w : World) (a b : Nat) (ha : a ≤ 1000) (hb : b ≤ 1000) : Calls Try.prog 41 #[.int .i64 (a : Int), .int .i64 (b : Int)] w (PostS w (prL a b)) := by
  have HO := Lib.hid (OwnI.lit2 w ((min a b : Nat) : Int) ((max a b : Nat) : Int) (Nat.le_refl w.heap.size))
  have HB := Lib.hid (Below.alloc (Below.refl w.heap.size w) (Nat.le_refl _) (.cells #[.int .i64 ((min a b : Nat) : Int), .int .i64 ((max a b : Nat) : Int)] 2))
  have hmin : min (a : Int) (b : Int) = ((min a b : Nat) : Int) := by omega
  have hmax : max (a : Int) (b : Int) = ((max a b : Nat) : Int) := by omega
  have HF := Lib.hid (show prL a b = [((min a b : Nat) : Int), ((max a b : Nat) : Int)] from rfl)
  go_enter Try.func41, Try.ntmps41
  go_wp2
  go_ret
  exact ⟨⟨_, 2, 2, rfl, rfl, HO.out⟩, HB.out⟩
end Go.Proofs.Ytcdbbcnoleilfaa
