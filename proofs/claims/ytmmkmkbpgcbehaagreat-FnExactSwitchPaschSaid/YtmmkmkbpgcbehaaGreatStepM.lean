/-
  The append of one row as a step of a region that draws its order. Conditions: those of each theorem.
-/
import Derived.Test.YtmmkmkbpgcbehaaGreatStep
import Derived.Test.YtmmkmkbpgcbehaaGreatGa
import Derived.Deep.RegionHeld3
namespace Go.Proofs.YtmmkmkbpgcbehaaGreat
open Go.RowKit
set_option linter.unusedVariables false
set_option linter.unusedSimpArgs false

section
variable {ops : Array Oper} {o : Oper} {a : Act} {K : Act → World → Prop} {Q : Exit → Act → World → Prop} {E : Prop}
/-- The append of one row as a step of a region that draws its order. -/
theorem stepM_append {w : World} (hgd : o.guard = none) (s x : Operand) (ho : o.op = .call { callee := .builtin .append, args := #[s, x], argTypes := #[22, 22] })
    (lo : Nat) (A : Option Addr) (c n : Nat) (R : Spine) (xss : List (List Int)) (Ay : Option Addr) (ny cy : Nat) (ys : List Int) (bx : Nat) (hs : a.eval s = .slice A n c) (hx : a.eval x = .slice (some ⟨bx, 0, none⟩) 1 1)
    (hn : xss.length = n) (hny : ys.length = ny) (hown : OwnM w lo A c R xss) (hr : OwnI w lo Ay cy ys) (hap : ∀ k, k < xss.length → ∀ g, (R k).1 = some ⟨g, 0, none⟩ → Ay ≠ some ⟨g, 0, none⟩)
    (hcell : w.cell? ⟨bx, 0, none⟩ = some (.slice Ay ny cy)) (hlen : n + 1 ≤ 4398046511104) (hlo : lo ≤ w.heap.size)
    (h : ∀ A' c' R' w', OwnM w' lo A' c' R' (xss ++ [ys]) → w.grownBy w' (blk A) → (blk A' = blk A ∨ blk A' = some w.heap.size) → K (a.put o.dst (.slice A' (n + 1) c')) w') :
    if Region.wanted o (yielded ops a.tmps) = true then Oper.wp Tryz.prog o a w K Q else E := by
  have hw : Region.wanted o (yielded ops a.tmps) = true := by simp [Region.wanted, hgd]
  rw [if_pos hw]
  obtain ⟨i, hi, hz, hz1, hz2⟩ := info_parts infoS
  subst hn
  subst hny
  obtain ⟨v', w', hr', h2, h3, _, h5⟩ := run_append_own_at (P := Tryz.prog) w lo 22 o.type 35 i _ 1 24 Tryz.underlying22 hi hz hz1 hz2 rfl (by decide) _ _ _ hown.own ⟨bx, 0, none⟩ 1 1 [.slice Ay ys.length cy] rfl (by
    intro j u hj
    match j, hj with
    | 0, hj => simp at hj; subst hj; exact hcell) (by intro u hu; simp at hu; subst hu; rfl) (by unfold maxLen; omega) (by omega) hlo
  obtain ⟨A', c', rfl⟩ := slice_of_own h2
  rw [ownBlock_slice] at h3 h5
  rw [ownBlock_slice] at h5
  unfold Oper.wp execOp
  simp only [ho, resolve, invoke, builtin, Sem.run_bind, Sem.run_pure, Result.andThen_ok, List.map_toArray, List.map_cons, List.map_nil, hs, hx, hr']
  exact h A' c' _ w' (hown.longer hr hap h2 h3) h3 h5
end
end Go.Proofs.YtmmkmkbpgcbehaaGreat
