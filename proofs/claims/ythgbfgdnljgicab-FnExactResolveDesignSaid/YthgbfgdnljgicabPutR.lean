/-
  A row of a matrix of the call's own that is put anew. Conditions: those of each theorem.
-/
import Derived.Test.YthgbfgdnljgicabApp
namespace Go.Proofs.Ythgbfgdnljgicab
open Go.RowKit
set_option linter.unusedVariables false
set_option linter.unusedSimpArgs false

/-- A row put anew where the step before turned that row's block alone. -/
theorem OwnM.put_row {w w' : World} {lo : Nat} {g c : Nat} {R : Spine} {xss : List (List Int)} (h : OwnM w lo (some ⟨g, 0, none⟩) c R xss) {i : Nat} (hi : i < xss.length) {Ay : Option Addr} {cy : Nat} {ys : List Int}
    (hg : w.grownBy w' (blk (R i).1)) (hr : OwnI w' lo Ay cy ys) (hb : blk Ay = blk (R i).1 ∨ blk Ay = some w.heap.size) :
    OwnM (w'.setCell ⟨g, i, none⟩ (.slice Ay ys.length cy)) lo (some ⟨g, 0, none⟩) c (putS R i Ay cy) (xss.set i ys) := by
  have hrow : ∀ k, k < xss.length → row (xss.set i ys) k = if k = i then ys else row xss k := by
    intro k hk
    by_cases e : k = i
    · subst e; simp [row, hk]
    · rw [if_neg e]; simp [row, List.getElem?_set_ne (fun e' => e e'.symm)]
  have hne_i : ∀ k, k < xss.length → k ≠ i → ∀ g', (R k).1 = some ⟨g', 0, none⟩ → blk (R i).1 ≠ some g' := by
    intro k hk e g' eg
    rcases (h.rows i hi).form with ⟨e2, _⟩ | ⟨g2, e2, _⟩
    · rw [e2]; simp [blk]
    · rw [e2, blk_some]
      rintro ⟨⟩
      rcases Nat.lt_or_gt_of_ne e with hlt | hlt
      · exact h.apart k i hlt hi g' eg e2
      · exact h.apart i k hlt hk g' e2 eg
  have hown' : w'.ownsRow lo 43 1 (.slice (some ⟨g, 0, none⟩) xss.length c) xss.length ((List.range xss.length).map fun k => .slice (R k).1 (row xss k).length (R k).2) := by
    refine ⟨h.own.1, ?_⟩
    rcases h.own.2 with hn | ⟨g0, cap, cur, e, hlo, hh, r⟩
    · exact .inl hn
    · refine .inr ⟨g0, cap, cur, e, hlo, ?_, r⟩
      rw [hg.block g0 (Array.getElem?_eq_some_iff.1 hh).1 ?_]
      · exact hh
      · injection e with e1 _ _
        have := h.outer_ne hi e1
        rcases (h.rows i hi).form with ⟨e2, _⟩ | ⟨g', e2, _⟩
        · rw [e2]; simp [blk]
        · rw [e2] at this ⊢
          simp only [blk_some, ne_eq, Option.some.injEq]
          rintro rfl
          exact this rfl
  have hrows' : ∀ k, k < xss.length → k ≠ i → OwnI w' lo (R k).1 (R k).2 (row xss k) := fun k hk e => (h.rows k hk).grown hg fun g' eg => hne_i k hk e g' eg
  have hap : ∀ k, k < xss.length → k ≠ i → ∀ g', (R k).1 = some ⟨g', 0, none⟩ → Ay ≠ some ⟨g', 0, none⟩ := by
    intro k hk e g' eg eA
    rw [eA, blk_some] at hb
    rcases hb with hb | hb
    · exact hne_i k hk e g' eg hb.symm
    · have := ((h.rows k hk).lt eg).2
      injection hb with hb
      omega
  obtain ⟨hs1, hs2⟩ := World.ownsRow.stored hown' i (.slice Ay ys.length cy)
  have hne : ∀ {A0 : Option Addr} {c0 : Nat} {zs : List Int}, OwnI w' lo A0 c0 zs → OwnI (w'.setCell ⟨g, i, none⟩ (.slice Ay ys.length cy)) lo A0 c0 zs := by
    intro A0 c0 zs h0
    refine h0.grown hs2 fun g' e => ?_
    rcases h0.2 with ⟨e1, _⟩ | ⟨g1, c1, cur1, e1, _, hh1, _⟩
    · rw [e] at e1; simp at e1
    rcases hown'.2 with ⟨e2, _⟩ | ⟨g2, c2, cur2, e2, _, hh2, _⟩
    · simp at e2
    rw [e] at e1
    simp only [Value.slice.injEq, Option.some.injEq, Addr.mk.injEq, and_true] at e1 e2
    obtain ⟨rfl, _⟩ := e1
    obtain ⟨rfl, _⟩ := e2
    rintro ⟨⟩
    rw [hh1] at hh2
    simp at hh2
  refine ⟨?_, fun k hk => ?_, fun a b hab hb g' e => ?_⟩
  · rw [List.length_set]
    have e : ((List.range xss.length).map fun k => Value.slice (putS R i Ay cy k).1 (row (xss.set i ys) k).length (putS R i Ay cy k).2) =
        ((List.range xss.length).map fun k => Value.slice (R k).1 (row xss k).length (R k).2).set i (.slice Ay ys.length cy) := by
      apply List.ext_getElem
      · simp
      · intro k h1 h2
        simp only [List.length_map, List.length_range] at h1
        rw [List.getElem_set]
        simp only [List.getElem_map, List.getElem_range, putS]
        rw [hrow k h1]
        by_cases e : k = i
        · subst e; simp
        · rw [if_neg e, if_neg e, if_neg (fun e' => e e'.symm)]
    rw [e]
    exact hs1
  · rw [List.length_set] at hk
    rw [hrow k hk]
    simp only [putS]
    by_cases e : k = i
    · rw [if_pos e, if_pos e]; exact hne hr
    · rw [if_neg e, if_neg e]; exact hne (hrows' k hk e)
  · rw [List.length_set] at hb
    simp only [putS] at e ⊢
    by_cases ea : a = i
    · rw [if_pos ea] at e
      rw [if_neg (by omega)]
      intro e'
      exact hap b hb (by omega) g' e' e
    · rw [if_neg ea] at e
      by_cases eb : b = i
      · rw [if_pos eb]; exact hap a (by omega) ea g' e
      · rw [if_neg eb]; exact h.apart a b hab hb g' e
theorem OwnM.outer_at {w w' : World} {lo : Nat} {g c : Nat} {R : Spine} {xss : List (List Int)} (h : OwnM w lo (some ⟨g, 0, none⟩) c R xss) {i : Nat} (hi : i < xss.length) (hg : w.grownBy w' (blk (R i).1)) :
    w'.cell? ⟨g, i, none⟩ = some (.slice (R i).1 (row xss i).length (R i).2) ∧ w'.frozen? ⟨g, i, none⟩ = false := by
  have hown' : w'.ownsRow lo 43 1 (.slice (some ⟨g, 0, none⟩) xss.length c) xss.length ((List.range xss.length).map fun k => .slice (R k).1 (row xss k).length (R k).2) := by
    refine ⟨h.own.1, ?_⟩
    rcases h.own.2 with hn | ⟨g0, cap, cur, e, hlo, hh, r⟩
    · exact .inl hn
    · refine .inr ⟨g0, cap, cur, e, hlo, ?_, r⟩
      rw [hg.block g0 (Array.getElem?_eq_some_iff.1 hh).1 ?_]
      · exact hh
      · injection e with e1 _ _
        have := h.outer_ne hi e1
        rcases (h.rows i hi).form with ⟨e2, _⟩ | ⟨g', e2, _⟩
        · rw [e2]; simp [blk]
        · rw [e2] at this ⊢
          simp only [blk_some, ne_eq, Option.some.injEq]
          rintro rfl
          exact this rfl
  refine ⟨?_, World.ownsRow.frozenAt hown' i⟩
  rw [World.ownsRow.cellAt hown' i (by omega)]
  simp [hi]
end Go.Proofs.Ythgbfgdnljgicab
