/-
  CompletePlane as a plain law. Conditions: those of each theorem.
-/
import Derived.Test.YtcdbbcnoleilfaaPcP
import Derived.Test.YtcdbbcnoleilfaaMake
namespace Go.Proofs.Ytcdbbcnoleilfaa
open Go.RowKit
set_option linter.unusedVariables false
set_option linter.unusedSimpArgs false

theorem sortLL_perm' {xss yss : List (List Int)} (h : xss.Perm yss) : sortLL xss = sortLL yss :=
  sortLL_unique ((List.mergeSort_perm xss _).trans h) (sortLL_pw xss)
/-- The points at infinity. -/
def lsX (P k : Nat) : List Int := (List.range k).map fun (c : Nat) => (P : Int) + (c : Int)
theorem lsX_succ (P k : Nat) : lsX P (k + 1) = lsX P k ++ [(P : Int) + (k : Int)] := by simp [lsX, List.range_succ]
theorem lsX_len (P k : Nat) : (lsX P k).length = k := by simp [lsX]
def cpL (P : Nat) (xss C : List (List Int)) : List (List Int) := (List.range xss.length).map (cpG P xss C) ++ [lsX P C.length]
def cpC (p : Int) (xss : List (List Int)) : Int := if pcC p xss = 0 then (if 32 < p + affI p xss + 1 then 2 else 0) else pcC p xss
def cpX (p : Int) (xss : List (List Int)) : List (List Int) := if cpC p xss = 0 then sortLL (cpL p.toNat xss (clsTo p.toNat xss xss.length)) else []
def cpP (p : Int) (xss : List (List Int)) : Int := if cpC p xss = 0 then p + affI p xss + 1 else 0
theorem tot_sg (C : List (List Int)) : tot C = sg (fun c => (row C c).length) C.length := by
  unfold tot
  conv => lhs; rw [← row_all C]
  rw [List.map_map, ← sg_range]; rfl
theorem ClsOk.blocks {P K : Nat} {xss C : List (List Int)} (hI : Inc P xss.length K (lnB xss)) (h : ClsOk P xss C xss.length) : xss.length = (K + 1) * K := by
  have h1 := h.tot_
  rw [tot_sg, sg_congr (g := fun _ => K) (fun c hc => h.len hI hc), sg_const, h.many hI] at h1
  exact h1.symm
theorem sq_small {K : Nat} (h : K * K + K + 1 ≤ 32) : K ≤ 5 ∧ (K + 1) * K ≤ 30 := by
  have h5 : K ≤ 5 := by
    rcases Nat.lt_or_ge 5 K with e | e
    · have := Nat.mul_le_mul (show 6 ≤ K by omega) (show 6 ≤ K by omega); omega
    · exact e
  exact ⟨h5, Nat.le_trans (Nat.mul_le_mul (show K + 1 ≤ 6 by omega) h5) (by omega)⟩
/-- What stands when the plane is made. -/
theorem cp_facts {p : Int} {xss : List (List Int)} (h : cpC p xss = 0) : ∃ P K : Nat, p = (P : Int) ∧ DsgOk (P : Int) xss ∧ affI p xss = (K : Int) ∧ Inc P xss.length K (lnB xss) ∧ P + K + 1 ≤ 32 ∧ pcC p xss = 0 ∧ xss.length ≤ 30 ∧ (∀ k, k < xss.length → (row xss k).length = K) ∧ 2 ≤ K ∧
    cpX p xss = sortLL (cpL P xss (clsTo P xss xss.length)) ∧ cpP p xss = (P : Int) + (K : Int) + 1 ∧ (clsTo P xss xss.length).length = K + 1 := by
  have h0 : pcC p xss = 0 := by
    unfold cpC at h
    split at h
    · next h1 => exact h1
    · exact h
  obtain ⟨P, rfl, hD, hK, hI, hX⟩ := pc_facts h0
  have h32 : ¬ 32 < (P : Int) + affI (P : Int) xss + 1 := fun e => by
    unfold cpC at h
    rw [if_pos h0, if_pos e] at h; omega
  have hok := clsTo_ok hI (Nat.le_refl _)
  have hsq := hI.sq
  have hPK : P + (row xss 0).length + 1 ≤ 32 := by omega
  have hm := sq_small (K := (row xss 0).length) (by omega)
  have hbl := hok.blocks hI
  have ha : affOk P xss := by
    have := (affI_pos (p := (P : Int)) (xss := xss) (by have := hI.two; omega)).2.1
    rwa [show ((P : Int)).toNat = P by omega] at this
  refine ⟨P, (row xss 0).length, rfl, hD, hK, hI, hPK, h0, by omega, ha.1.2.2.2.1, hI.two, ?_, ?_, hok.many hI⟩
  · unfold cpX; rw [if_pos h, show ((P : Int)).toNat = P by omega]
  · unfold cpP; rw [if_pos h, hK]
theorem cpL_row {P K : Nat} {xss C : List (List Int)} (hK : ∀ k, k < xss.length → (row xss k).length = K) (hC : C.length = K + 1) {r : List Int} (h : r ∈ cpL P xss C) : r.length = K + 1 := by
  unfold cpL at h
  rcases List.mem_append.1 h with h | h
  · obtain ⟨k, hk, rfl⟩ := List.mem_map.1 h
    unfold cpG
    rw [List.length_append, hK k (List.mem_range.1 hk)]; rfl
  · rw [List.mem_singleton.1 h, lsX_len, hC]
theorem cpL_len (P : Nat) (xss C : List (List Int)) : (cpL P xss C).length = xss.length + 1 := by simp [cpL]
theorem tot_le {xss : List (List Int)} {b : Nat} (h : ∀ r ∈ xss, r.length ≤ b) : tot xss ≤ xss.length * b := by
  unfold tot
  induction xss with
  | nil => simp
  | cons r xss ih =>
    have h1 := ih fun r hr => h r (List.mem_cons_of_mem _ hr)
    have h2 := h r (List.mem_cons_self ..)
    rw [List.map_cons, List.sum_cons, List.length_cons, Nat.succ_mul]; omega
theorem CompletePlane_small (p : Int) (xss : List (List Int)) : (cpX p xss).length ≤ 1048576 ∧ tot (cpX p xss) ≤ 1048576 := by
  by_cases h : cpC p xss = 0
  · obtain ⟨P, K, rfl, hD, hK, hI, h32, h0, hm, hl, _, hX, _, hC⟩ := cp_facts h
    rw [hX]
    have hp : (sortLL (cpL P xss (clsTo P xss xss.length))).Perm (cpL P xss (clsTo P xss xss.length)) := List.mergeSort_perm _ _
    have h1 := hp.length_eq
    rw [cpL_len] at h1
    have h2 := tot_le (xss := sortLL (cpL P xss (clsTo P xss xss.length))) (b := K + 1) fun r hr => by rw [cpL_row hl hC (hp.mem_iff.1 hr)]; omega
    have h3 : (xss.length + 1) * (K + 1) ≤ 31 * 32 := Nat.mul_le_mul (by omega) (by omega)
    rw [h1] at h2
    omega
  · rw [show cpX p xss = [] from if_neg h]; simp [tot]

/-! ### A list and a list of lists that lie apart -/
section
variable {w w' : World} {lo lo' : Nat} {A A0 : Option Addr} {c c0 : Nat} {R : Spine} {xss : List (List Int)} {zs : List Int}
theorem OwnM.head_ne {g : Nat} (h : OwnM w lo (some ⟨g, 0, none⟩) c R xss) (h0 : OwnI w lo' A0 c0 zs) : A0 ≠ some ⟨g, 0, none⟩ := fun e => by
  rcases h0.2 with ⟨e1, _⟩ | ⟨g1, c1, cur1, e1, _, hh1, _⟩
  · rw [e] at e1; simp at e1
  rcases h.own.2 with ⟨e2, _⟩ | ⟨g2, c2, cur2, e2, _, hh2, _⟩
  · simp at e2
  rw [e] at e1
  simp only [Value.slice.injEq, Option.some.injEq, Addr.mk.injEq, and_true] at e1 e2
  obtain ⟨rfl, _⟩ := e1
  obtain ⟨rfl, _⟩ := e2
  rw [hh1] at hh2
  simp at hh2
/-- Kept where a step turned one other block alone. -/
theorem OwnM.grown_other (h : OwnM w lo A c R xss) {r : Option Nat} (hg : w.grownBy w' r) (hA : ∀ g, A = some ⟨g, 0, none⟩ → r ≠ some g) (hR : ∀ k, k < xss.length → ∀ g, (R k).1 = some ⟨g, 0, none⟩ → r ≠ some g) : OwnM w' lo A c R xss := by
  refine ⟨⟨h.own.1, ?_⟩, fun k hk => (h.rows k hk).grown hg fun g e => hR k hk g e, h.apart⟩
  rcases h.own.2 with hn | ⟨g0, cap, cur, e, hlo, hh, r'⟩
  · exact .inl hn
  · refine .inr ⟨g0, cap, cur, e, hlo, ?_, r'⟩
    rw [hg.block g0 (Array.getElem?_eq_some_iff.1 hh).1 ?_]
    · exact hh
    · injection e with e1 _ _
      first | exact hA g0 e1 | exact (hA g0 e1).symm
theorem OwnM.blk_ne (h : OwnM w lo A c R xss) (h0 : OwnI w lo' A0 c0 zs) {g : Nat} (e : A0 = some ⟨g, 0, none⟩) : blk A ≠ some g := fun e2 => by
  rcases h.form with ⟨e3, _⟩ | ⟨g', e3, _⟩
  · rw [e3] at e2; simp [blk] at e2
  · rw [e3, blk_some] at e2; injection e2 with e2; subst e2; subst e3; exact h.head_ne h0 e
theorem OwnI.blk_ne (h0 : OwnI w lo' A0 c0 zs) {g : Nat} (e : A0 ≠ some ⟨g, 0, none⟩) : blk A0 ≠ some g := fun e2 => by
  rcases h0.form with ⟨e3, _⟩ | ⟨g', e3, _⟩
  · rw [e3] at e2; simp [blk] at e2
  · rw [e3, blk_some] at e2; injection e2 with e2; subst e2; exact e e3
end
end Go.Proofs.Ytcdbbcnoleilfaa
