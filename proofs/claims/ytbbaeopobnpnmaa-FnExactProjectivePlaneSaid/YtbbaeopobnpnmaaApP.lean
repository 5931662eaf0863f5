/-
  AffinePlane as a plain law. No program in sight. Conditions: those of each theorem.
-/
import Derived.Test.YtbbaeopobnpnmaaFldD
import Derived.Test.YtbbaeopobnpnmaaMake
namespace Go.Proofs.Ytbbaeopobnpnmaa
open Go.RowKit
set_option linter.unusedVariables false
set_option linter.unusedSimpArgs false

theorem sortLL_permA {xss yss : List (List Int)} (h : xss.Perm yss) : sortLL xss = sortLL yss :=
  sortLL_unique ((List.mergeSort_perm _ _).trans h) (sortLL_pw xss)
theorem totA_le {xss : List (List Int)} (h : ∀ r ∈ xss, r.length ≤ 1000) : tot xss ≤ xss.length * 1000 := by
  induction xss with
  | nil => simp [tot]
  | cons q xss ih =>
    have h1 := ih fun r hr => h r (List.mem_cons_of_mem _ hr)
    have h2 := h q (List.mem_cons_self ..)
    rw [List.length_cons, Nat.succ_mul]
    simp [tot] at *
    omega
theorem sortLL_small {xss : List (List Int)} (hl : xss.length ≤ 1000) (h : ∀ r ∈ xss, r.length ≤ 1000) : (sortLL xss).length ≤ 1048576 ∧ tot (sortLL xss) ≤ 1048576 := by
  have h1 := totA_le (xss := sortLL xss) fun r hr => h r ((List.mergeSort_perm xss _).mem_iff.1 hr)
  rw [sortLL_len] at h1 ⊢
  have := Nat.mul_le_mul_right 1000 hl
  omega
theorem square_small {q : Int} (h1 : 0 ≤ q) (h2 : q ≤ 64) : 0 ≤ q * q ∧ q * q ≤ 4096 :=
  ⟨Int.mul_nonneg h1 h1, by have := Int.mul_le_mul h2 h2 h1 (by omega); omega⟩
/-- It returned a design. -/
def PostD2 (w : World) (p : Int) (xss : List (List Int)) (e : Ending) (w' : World) : Prop :=
  (∃ A n c R, e = .returned (.agg #[.int .i64 p, .slice A n c]) ∧ xss.length = n ∧ OwnM w' w.heap.size A c R xss) ∧ Below w.heap.size w w'
/-- The first m numbers of a function. -/
def lnT (f : Nat → Nat) (m : Nat) : List Int := (List.range m).map fun x => ((f x : Nat) : Int)
theorem lnT_succ (f : Nat → Nat) (m : Nat) : lnT f (m + 1) = lnT f m ++ [((f m : Nat) : Int)] := by simp [lnT, List.range_succ]
theorem lnT_len (f : Nat → Nat) (m : Nat) : (lnT f m).length = m := by simp [lnT]
/-- The element on a line of slope m through b. -/
def apG (p k : Nat) (poly : List Int) (m b x : Nat) : Nat := cmbF p k 1 (mulF p k poly m x) b
def apV (n m : Nat) : List Int := lnT (fun x => n * m + x) n
def apS (n : Nat) (g : Nat → Nat → Nat → Nat) (m b : Nat) : List Int := lnT (fun x => n * x + g m b x) n
/-- The first b lines of a slope; the lines of the first m slopes; both as the program has them. -/
def apB (n : Nat) (g : Nat → Nat → Nat → Nat) (m b : Nat) : List (List Int) := (List.range b).map fun b => apS n g m b
theorem apB_succ (n : Nat) (g : Nat → Nat → Nat → Nat) (m b : Nat) : apB n g m (b + 1) = apB n g m b ++ [apS n g m b] := by simp [apB, List.range_succ]
def apI (n : Nat) (g : Nat → Nat → Nat → Nat) (m : Nat) : List (List Int) := (List.range m).flatMap fun m => apV n m :: apB n g m n
theorem apI_succ (n : Nat) (g : Nat → Nat → Nat → Nat) (m : Nat) : apI n g (m + 1) = apI n g m ++ [apV n m] ++ apB n g m n := by simp [apI, List.range_succ]
def apU (n m : Nat) : List (List Int) := (List.range m).map fun m => apV n m
theorem apU_succ (n m : Nat) : apU n (m + 1) = apU n m ++ [apV n m] := by simp [apU, List.range_succ]
theorem apU_len (n m : Nat) : (apU n m).length = m := by simp [apU]
def apL (n : Nat) (g : Nat → Nat → Nat → Nat) (m : Nat) : List (List Int) := (List.range m).flatMap fun m => apB n g m n
theorem apL_succ (n : Nat) (g : Nat → Nat → Nat → Nat) (m : Nat) : apL n g (m + 1) = apL n g m ++ apB n g m n := by simp [apL, List.range_succ]
theorem apB_len (n : Nat) (g : Nat → Nat → Nat → Nat) (m b : Nat) : (apB n g m b).length = b := by simp [apB]
theorem apI_len (n : Nat) (g : Nat → Nat → Nat → Nat) (m : Nat) : (apI n g m).length = m * (n + 1) := by
  induction m with
  | zero => simp [apI]
  | succ m ih => rw [apI_succ, List.length_append, List.length_append, ih, apB_len, List.length_singleton, Nat.succ_mul]; omega
theorem apL_len (n : Nat) (g : Nat → Nat → Nat → Nat) (m : Nat) : (apL n g m).length = m * n := by
  induction m with
  | zero => simp [apL]
  | succ m ih => rw [apL_succ, List.length_append, ih, apB_len, Nat.succ_mul]
theorem ap_perm (n : Nat) (g : Nat → Nat → Nat → Nat) (m : Nat) : (apU n m ++ apL n g m).Perm (apI n g m) := by
  induction m with
  | zero => exact List.Perm.refl _
  | succ m ih =>
    rw [apI_succ, apU_succ, apL_succ]
    refine List.Perm.trans ?_ ((ih.append_right [apV n m]).append_right (apB n g m n))
    rw [← List.append_assoc]
    refine List.Perm.append_right _ ?_
    rw [List.append_assoc, List.append_assoc]
    exact List.Perm.append_left _ List.perm_append_comm
theorem apI_rows {n : Nat} {g : Nat → Nat → Nat → Nat} {m : Nat} {r : List Int} (h : r ∈ apI n g m) : r.length = n := by
  unfold apI at h
  obtain ⟨a, _, h⟩ := List.mem_flatMap.1 h
  rcases List.mem_cons.1 h with e | h
  · rw [e]; exact lnT_len _ _
  · obtain ⟨b, _, e⟩ := List.mem_map.1 h
    rw [← e]; exact lnT_len _ _
def apOk (q : Int) : Bool := decide (fdB q = true ∧ q * q ≤ 32)
def apG_ (q : Int) : Nat → Nat → Nat → Nat := apG (fdP q) (fdK q) (fdY q)
def apP (q : Int) : Int := if apOk q = true then q * q else 0
def apX (q : Int) : List (List Int) := if apOk q = true then sortLL (apI q.toNat (apG_ q) q.toNat) else []
def apC (q : Int) : Int := if apOk q = true then 0 else 2
theorem apOk_nat {q : Int} (h : apOk q = true) : fdB q = true ∧ q * q ≤ 32 ∧ 2 ≤ q ∧ q ≤ 5 := by
  have h := of_decide_eq_true h
  have h2 := (fd_spec h.1).2.2.2.2.2
  refine ⟨h.1, h.2, h2.1, ?_⟩
  rcases Int.lt_or_le 5 q with h6 | h6
  · have : 6 * 6 ≤ q * q := Int.mul_le_mul h6 h6 (by omega) (by omega)
    omega
  · exact h6
theorem AffinePlane_small (q : Int) : (apX q).length ≤ 1048576 ∧ tot (apX q) ≤ 1048576 := by
  unfold apX
  split
  · next h =>
    obtain ⟨_, _, h2, h5⟩ := apOk_nat h
    have hl : (apI q.toNat (apG_ q) q.toNat).length ≤ 30 := by
      rw [apI_len]
      have : q.toNat * (q.toNat + 1) ≤ 5 * 6 := Nat.mul_le_mul (by omega) (by omega)
      omega
    exact sortLL_small (by omega) fun r hr => by have := apI_rows hr; omega
  · simp [tot]
end Go.Proofs.Ytbbaeopobnpnmaa
