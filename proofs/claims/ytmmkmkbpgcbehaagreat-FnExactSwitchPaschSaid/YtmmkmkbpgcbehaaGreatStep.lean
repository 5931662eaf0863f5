/-
  Appends as steps of regions that draw their order. Conditions: those of each theorem.
-/
import Derived.Test.YtmmkmkbpgcbehaaGreatGa
import Derived.Deep.RegionLaw
namespace Go.Proofs.YtmmkmkbpgcbehaaGreat
open Go.RowKit
set_option linter.unusedVariables false
set_option linter.unusedSimpArgs false

section
variable {ops : Array Oper} {o : Oper} {a : Act} {K : Act → World → Prop} {Q : Exit → Act → World → Prop} {E : Prop}
/-- The append of one number as a step of a region that draws its order. -/
theorem stepI_append {w : World} (hgd : o.guard = none) (s x : Operand) (ho : o.op = .call { callee := .builtin .append, args := #[s, x], argTypes := #[35, 35] })
    (lo : Nat) (A : Option Addr) (c n : Nat) (xs : List Int) (y : Int) (bx : Nat) (hs : a.eval s = .slice A n c) (hx : a.eval x = .slice (some ⟨bx, 0, none⟩) 1 1)
    (hn : xs.length = n) (hown : OwnI w lo A c xs) (hcell : w.cell? ⟨bx, 0, none⟩ = some (.int .i64 y)) (hlen : n + 1 ≤ 17592186044416) (hlo : lo ≤ w.heap.size)
    (h : ∀ A' c' w', OwnI w' lo A' c' (xs ++ [y]) → w.grownBy w' (blk A) → (blk A' = blk A ∨ blk A' = some w.heap.size) → K (a.put o.dst (.slice A' (n + 1) c')) w') :
    if Region.wanted o (yielded ops a.tmps) = true then Oper.wp Tryz.prog o a w K Q else E := by
  have hw : Region.wanted o (yielded ops a.tmps) = true := by simp [Region.wanted, hgd]
  rw [if_pos hw]
  obtain ⟨i, hi, hz, hz1, hz2⟩ := info_parts infoI
  subst hn
  obtain ⟨v', w', hr, h2, h3, _, h5⟩ := run_append_own_at (P := Tryz.prog) w lo 35 o.type 2 i _ 1 8 Tryz.underlying35 hi hz hz1 hz2 rfl (by decide) _ _ _ hown ⟨bx, 0, none⟩ 1 1 [.int .i64 y] rfl (by
    intro j u hj
    match j, hj with
    | 0, hj => simp at hj; subst hj; exact hcell) (by intro u hu; simp at hu; subst hu; rfl) (by unfold maxLen; omega) (by omega) hlo
  obtain ⟨A', c', rfl⟩ := slice_of_own h2
  rw [ownBlock_slice] at h3 h5
  rw [ownBlock_slice] at h5
  unfold Oper.wp execOp
  simp only [ho, resolve, invoke, builtin, Sem.run_bind, Sem.run_pure, Result.andThen_ok, List.map_toArray, List.map_cons, List.map_nil, hs, hx, hr]
  refine h A' c' w' ?_ h3 h5
  unfold OwnI
  rw [List.length_append, List.map_append]
  exact h2
end

theorem OwnI.blk_ge {w : World} {lo : Nat} {A : Option Addr} {c : Nat} {xs : List Int} (h : OwnI w lo A c xs) : ∀ g, blk A = some g → lo ≤ g := by
  intro g e
  rcases h.form with ⟨e1, _⟩ | ⟨g1, e1, hl1, _⟩
  · rw [e1] at e; simp [blk] at e
  · rw [e1, blk_some] at e; injection e with e; omega
end Go.Proofs.YtmmkmkbpgcbehaaGreat
