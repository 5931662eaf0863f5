/-
  MolsOfPlane as a plain law: the squares. Conditions: those of each theorem.
-/
import Derived.Test.YtcdbbcnoleilfaaAffM
import Derived.Test.YtcdbbcnoleilfaaPcP
import Derived.Test.YtcdbbcnoleilfaaTri2
namespace Go.Proofs.Ytcdbbcnoleilfaa
open Go.RowKit
set_option linter.unusedVariables false
set_option linter.unusedSimpArgs false

def moL (xss C : List (List Int)) (K k : Nat) : List (List (List Int)) := (List.range k).map fun c => sqTo (mpF xss C (c + 2)) K K
theorem moL_succ (xss C : List (List Int)) (K k : Nat) : moL xss C K (k + 1) = moL xss C K k ++ [sqTo (mpF xss C (k + 2)) K K] := by simp [moL, List.range_succ]
theorem moL_len (xss C : List (List Int)) (K k : Nat) : (moL xss C K k).length = k := by simp [moL]
def moX (p : Int) (xss : List (List Int)) : List (List (List Int)) := if pcC p xss = 0 then moL xss (clsTo p.toNat xss xss.length) (row xss 0).length ((row xss 0).length - 1) else []
theorem mo_facts {p : Int} {xss : List (List Int)} (h : pcC p xss = 0) : ∃ P K : Nat, p = (P : Int) ∧ DsgOk (P : Int) xss ∧ affI p xss = (K : Int) ∧ Inc P xss.length K (lnB xss) ∧ ClsOk P xss (clsTo P xss xss.length) xss.length ∧ (clsTo P xss xss.length).length = K + 1 ∧ P = K * K ∧ 2 ≤ K ∧ K ≤ 5 ∧ RowsOk P xss ∧
    pcX p xss = clsTo P xss xss.length ∧ moX p xss = moL xss (clsTo P xss xss.length) K (K - 1) := by
  obtain ⟨P, rfl, hD, hK, hI, hX⟩ := pc_facts h
  have hok := clsTo_ok hI (Nat.le_refl _)
  have hsq := hI.sq
  have h32 : P ≤ 32 := by have := hD.1.2; omega
  have h5 : (row xss 0).length ≤ 5 := by
    rcases Nat.lt_or_ge 5 (row xss 0).length with e | e
    · have := Nat.mul_le_mul (show 6 ≤ (row xss 0).length by omega) (show 6 ≤ (row xss 0).length by omega); omega
    · exact e
  refine ⟨P, _, rfl, hD, hK, hI, hok, hok.many hI, by omega, hI.two, h5, hD.rows, hX, ?_⟩
  unfold moX; rw [if_pos h, show ((P : Int)).toNat = P by omega]
theorem moL_wgt (xss C : List (List Int)) (K k : Nat) : wgt (moL xss C K k) = k * (K + K * K) := by
  induction k with
  | zero => simp [moL, wgt]
  | succ k ih => rw [moL_succ, wgt_append, ih, wgt_one, length_sqTo, tot_sqTo, Nat.succ_mul]
theorem MolsOfPlane_small (p : Int) (xss : List (List Int)) : (moX p xss).length ≤ 1048576 ∧ wgt (moX p xss) ≤ 1048576 := by
  by_cases h : pcC p xss = 0
  · obtain ⟨P, K, _, _, _, _, _, _, _, _, h5, _, _, e⟩ := mo_facts h
    rw [e, moL_len, moL_wgt]
    refine ⟨by omega, ?_⟩
    have h1 := Nat.mul_le_mul h5 h5
    have h2 := Nat.mul_le_mul (show K - 1 ≤ 4 by omega) (show K + K * K ≤ 30 by omega)
    omega
  · rw [show moX p xss = [] from if_neg h]; simp [wgt]
theorem ClsOk.cell {P K : Nat} {xss C : List (List Int)} (hI : Inc P xss.length K (lnB xss)) (h : ClsOk P xss C xss.length) {c i : Nat} (hc : c < C.length) (hi : i < K) : nth (row C c) i = (cN C c i : Int) ∧ cN C c i < xss.length := by
  have hl := h.len hI hc
  exact h.mem c hc i (by omega)
theorem OwnL.lower {w : World} {lo lo' hi : Nat} {A : Option Addr} {c : Nat} {S : Spine3} {I : Nat → Nat × Nat} {x : List (List (List Int))} (h : OwnL w lo hi A c S I x) (hl : lo' ≤ lo) : OwnL w lo' hi A c S I x := by
  refine ⟨⟨h.own.1, ?_⟩, h.top, h.rows, fun k hk => ⟨Nat.le_trans hl (h.inn k hk).1, (h.inn k hk).2⟩, h.out, h.apart⟩
  rcases h.own.2 with hn | ⟨g, cap, cur, e, hg, r⟩
  · exact .inl hn
  · exact .inr ⟨g, cap, cur, e, by omega, r⟩
/-- The places of the point p among the first classes, the class kk's among them, behind i blocks of the class j. -/
def mqC (kk j : Nat) : Nat := if j < 2 then j else kk + 2
def mqP (ii : Nat → Nat) (j : Nat) : List Int := (List.range j).map fun j => (ii j : Int)
theorem mqP_succ (ii : Nat → Nat) (j : Nat) : mqP ii (j + 1) = mqP ii j ++ [(ii j : Int)] := by simp [mqP, List.range_succ]
theorem mqP_len (ii : Nat → Nat) (j : Nat) : (mqP ii j).length = j := by simp [mqP]
theorem mqP_all (ii : Nat → Nat) {j n : Nat} (h : ii j < n) : mqP ii j ++ atK (ii j) n = mqP ii (j + 1) := by rw [mqP_succ]; unfold atK; rw [if_pos h]
theorem mqP_hit (ii : Nat → Nat) (j : Nat) : mqP ii j ++ atK (ii j) (ii j + 1) = (mqP ii j ++ atK (ii j) (ii j)) ++ [(ii j : Int)] := by rw [(atK_hit (ii j)).1, (atK_hit (ii j)).2, List.append_nil]
theorem mqP_hit' {ii : Nat → Nat} {i j : Nat} (h : i = ii j) : mqP ii j ++ atK (ii j) (i + 1) = (mqP ii j ++ atK (ii j) i) ++ [(i : Int)] := by subst h; exact mqP_hit ii j
theorem mqC_0 (kk : Nat) : mqC kk 0 = 0 := rfl
theorem mqC_1 (kk : Nat) : mqC kk 1 = 1 := rfl
theorem mqC_2 (kk : Nat) : mqC kk 2 = kk + 2 := rfl
end Go.Proofs.Ytcdbbcnoleilfaa
