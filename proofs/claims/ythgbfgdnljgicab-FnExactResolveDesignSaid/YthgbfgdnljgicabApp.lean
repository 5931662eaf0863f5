/-
  Laws for append, of one number or of one row, onto a slice of the call's own; for a store of a row. Conditions: those of each theorem.
-/
import Derived.Test.YthgbfgdnljgicabMem
namespace Go.Proofs.Ythgbfgdnljgicab
open Go.RowKit
set_option linter.unusedVariables false
set_option linter.unusedSimpArgs false

theorem infoI : (Try.prog.info? 2).map (fun i => (i.zero, i.size, i.bytes)) = some (some (.int .i64 0), 1, 8) := by kernel_rfl
theorem infoS : (Try.prog.info? 43).map (fun i => (i.zero, i.size, i.bytes)) = some (some (.slice none 0 0), 1, 24) := by kernel_rfl

section
variable {ops : Array Oper} {rest : List Oper} {o : Oper} {a : Act} {Q : Exit → Act → World → Prop}

theorem slice_of_own {w : World} {base e n : Nat} {v : Value} {xs : List Value} (h : w.ownsRow base e 1 v n xs) : ∃ A c, v = .slice A n c := by
  rcases h.2 with ⟨rfl, rfl⟩ | ⟨g, cap, cur, rfl, _⟩
  · exact ⟨none, 0, rfl⟩
  · exact ⟨some ⟨g, 0, none⟩, cap, rfl⟩
theorem ownBlock_slice (A : Option Addr) (n c : Nat) : (Value.slice A n c).ownBlock = blk A := by cases A <;> rfl

theorem wpI_append {w : World} (hgd : o.guard = none) (s x : Operand) (ho : o.op = .call { callee := .builtin .append, args := #[s, x], argTypes := #[43, 43] })
    (lo : Nat) (A : Option Addr) (c n : Nat) (xs : List Int) (y : Int) (bx : Nat) (hs : a.eval s = .slice A n c) (hx : a.eval x = .slice (some ⟨bx, 0, none⟩) 1 1)
    (hn : xs.length = n) (hown : OwnI w lo A c xs) (hcell : w.cell? ⟨bx, 0, none⟩ = some (.int .i64 y)) (hlen : n + 1 ≤ 17592186044416) (hlo : lo ≤ w.heap.size)
    (h : ∀ A' c' w', OwnI w' lo A' c' (xs ++ [y]) → w.grownBy w' (blk A) → (blk A' = blk A ∨ blk A' = some w.heap.size) → wpList Try.prog ops Q rest (a.put o.dst (.slice A' (n + 1) c')) w') :
    wpList Try.prog ops Q (o :: rest) a w := by
  obtain ⟨i, hi, hz, hz1, hz2⟩ := info_parts infoI
  subst hn
  refine wpList_append_own_at w hgd s x 43 ho lo 2 i _ 1 8 Try.underlying43 hi hz hz1 hz2 rfl (by decide) _ _ _ hs hown ⟨bx, 0, none⟩ 1 1 [.int .i64 y] hx rfl ?_ ?_ ?_ ?_ hlo ?_
  · intro j u hj
    match j, hj with
    | 0, hj => simp at hj; subst hj; exact hcell
  · intro u hu; simp at hu; subst hu; rfl
  · unfold maxLen; omega
  · omega
  · intro v' w' h2 h3 _ h5
    obtain ⟨A', c', rfl⟩ := slice_of_own h2
    rw [ownBlock_slice] at h3 h5
    rw [ownBlock_slice] at h5
    refine h A' c' w' ?_ h3 h5
    unfold OwnI
    rw [List.length_append, List.map_append]
    exact h2

end

/-- Where the row's own block lies apart from the rows that are there, the longer slice is the call's own too. -/
def putS (R : Spine) (n : Nat) (A : Option Addr) (c : Nat) : Spine := fun k => if k = n then (A, c) else R k

theorem row_append_lt {xss : List (List Int)} {ys : List Int} {k : Nat} (h : k < xss.length) : row (xss ++ [ys]) k = row xss k := by
  simp [row, List.getElem?_append_left h]
theorem row_append_eq {xss : List (List Int)} {ys : List Int} : row (xss ++ [ys]) xss.length = ys := by simp [row]

/-- A world in which the rows stand as they stood. -/
theorem OwnM.longer {w w' : World} {lo : Nat} {A A' Ay : Option Addr} {c c' cy : Nat} {R : Spine} {xss : List (List Int)} {ys : List Int} (h : OwnM w lo A c R xss) (hr : OwnI w lo Ay cy ys)
    (hap : ∀ k, k < xss.length → ∀ g, (R k).1 = some ⟨g, 0, none⟩ → Ay ≠ some ⟨g, 0, none⟩)
    (hown : w'.ownsRow lo 43 1 (.slice A' (xss.length + 1) c') (xss.length + 1) (((List.range xss.length).map fun k => .slice (R k).1 (row xss k).length (R k).2) ++ [.slice Ay ys.length cy])) (hg : w.grownBy w' (blk A)) :
    OwnM w' lo A' c' (putS R xss.length Ay cy) (xss ++ [ys]) := by
  have hne : ∀ g cur, w.heap[g]? = some (.cells cur 2 (0, 0)) → blk A ≠ some g := by
    intro g cur hh e
    rcases h.own.2 with ⟨e1, _⟩ | ⟨g1, c1, cur1, e1, _, hh1, _⟩
    · injection e1 with e1 _ _; subst e1; simp [blk] at e
    · injection e1 with e1 _ _
      subst e1
      simp only [blk_some, Option.some.injEq] at e
      subst e
      rw [hh] at hh1
      simp at hh1
  have hk : ∀ {A0 : Option Addr} {c0 : Nat} {zs : List Int}, OwnI w lo A0 c0 zs → OwnI w' lo A0 c0 zs := by
    intro A0 c0 zs h0
    refine h0.grown hg fun g e => ?_
    rcases h0.2 with ⟨e1, _⟩ | ⟨g1, c1, cur1, e1, _, hh1, _⟩
    · rw [e] at e1; simp at e1
    · rw [e] at e1
      simp only [Value.slice.injEq, Option.some.injEq, Addr.mk.injEq, and_true] at e1
      obtain ⟨rfl, _⟩ := e1
      exact hne _ _ hh1
  refine ⟨?_, fun k hk' => ?_, fun i j hij hj g e => ?_⟩
  · have e : ((List.range (xss ++ [ys]).length).map fun k => Value.slice (putS R xss.length Ay cy k).1 (row (xss ++ [ys]) k).length (putS R xss.length Ay cy k).2) =
        ((List.range xss.length).map fun k => .slice (R k).1 (row xss k).length (R k).2) ++ [.slice Ay ys.length cy] := by
      rw [List.length_append, List.length_singleton, List.range_succ, List.map_append]
      congr 1
      · refine List.map_congr_left fun k hk' => ?_
        have := List.mem_range.1 hk'
        simp only [putS]
        rw [if_neg (by omega), row_append_lt this]
      · simp only [List.map_cons, List.map_nil, putS, if_true]
        rw [row_append_eq]
    rw [e, List.length_append, List.length_singleton]
    exact hown
  · rw [List.length_append, List.length_singleton] at hk'
    by_cases e : k = xss.length
    · subst e
      simp only [putS, if_true]
      rw [row_append_eq]
      exact hk hr
    · simp only [putS]
      rw [if_neg e, row_append_lt (by omega)]
      exact hk (h.rows k (by omega))
  · rw [List.length_append, List.length_singleton] at hj
    simp only [putS] at e ⊢
    rw [if_neg (by omega)] at e
    by_cases ej : j = xss.length
    · rw [if_pos ej]; exact hap i (by omega) g e
    · rw [if_neg ej]; exact h.apart i j hij (by omega) g e

section
variable {ops : Array Oper} {rest : List Oper} {o : Oper} {a : Act} {Q : Exit → Act → World → Prop}
theorem wpM_append {w : World} (hgd : o.guard = none) (s x : Operand) (ho : o.op = .call { callee := .builtin .append, args := #[s, x], argTypes := #[22, 22] })
    (lo : Nat) (A : Option Addr) (c n : Nat) (R : Spine) (xss : List (List Int)) (Ay : Option Addr) (ny cy : Nat) (ys : List Int) (bx : Nat) (hs : a.eval s = .slice A n c) (hx : a.eval x = .slice (some ⟨bx, 0, none⟩) 1 1)
    (hn : xss.length = n) (hny : ys.length = ny) (hown : OwnM w lo A c R xss) (hr : OwnI w lo Ay cy ys) (hap : ∀ k, k < xss.length → ∀ g, (R k).1 = some ⟨g, 0, none⟩ → Ay ≠ some ⟨g, 0, none⟩)
    (hcell : w.cell? ⟨bx, 0, none⟩ = some (.slice Ay ny cy)) (hlen : n + 1 ≤ 4398046511104) (hlo : lo ≤ w.heap.size)
    (h : ∀ A' c' R' w', OwnM w' lo A' c' R' (xss ++ [ys]) → w.grownBy w' (blk A) → (blk A' = blk A ∨ blk A' = some w.heap.size) → wpList Try.prog ops Q rest (a.put o.dst (.slice A' (n + 1) c')) w') :
    wpList Try.prog ops Q (o :: rest) a w := by
  obtain ⟨i, hi, hz, hz1, hz2⟩ := info_parts infoS
  subst hn
  subst hny
  refine wpList_append_own_at w hgd s x 22 ho lo 43 i _ 1 24 Try.underlying22 hi hz hz1 hz2 rfl (by decide) _ _ _ hs hown.own ⟨bx, 0, none⟩ 1 1 [.slice Ay ys.length cy] hx rfl ?_ ?_ ?_ ?_ hlo ?_
  · intro j u hj
    match j, hj with
    | 0, hj => simp at hj; subst hj; exact hcell
  · intro u hu; simp at hu; subst hu; rfl
  · unfold maxLen; omega
  · omega
  · intro v' w' h2 h3 _ h5
    obtain ⟨A', c', rfl⟩ := slice_of_own h2
    rw [ownBlock_slice] at h3 h5
    rw [ownBlock_slice] at h5
    exact h A' c' _ w' (hown.longer hr hap h2 h3) h3 h5
end

/-- A store of a row at place i. -/
theorem OwnM.set_row {w : World} {lo : Nat} {g c : Nat} {R : Spine} {xss : List (List Int)} (h : OwnM w lo (some ⟨g, 0, none⟩) c R xss) {i : Nat} (hi : i < xss.length) {Ay : Option Addr} {cy : Nat} {ys : List Int} (hr : OwnI w lo Ay cy ys)
    (hap : ∀ k, k < xss.length → k ≠ i → ∀ g, (R k).1 = some ⟨g, 0, none⟩ → Ay ≠ some ⟨g, 0, none⟩) :
    OwnM (w.setCell ⟨g, i, none⟩ (.slice Ay ys.length cy)) lo (some ⟨g, 0, none⟩) c (putS R i Ay cy) (xss.set i ys) := by
  have hrow : ∀ k, k < xss.length → row (xss.set i ys) k = if k = i then ys else row xss k := by
    intro k hk
    by_cases e : k = i
    · subst e; simp [row, hk]
    · rw [if_neg e]; simp [row, List.getElem?_set_ne (fun e' => e e'.symm)]
  obtain ⟨hs1, hs2⟩ := World.ownsRow.stored h.own i (.slice Ay ys.length cy)
  have hne : ∀ {A0 : Option Addr} {c0 : Nat} {zs : List Int}, OwnI w lo A0 c0 zs → OwnI (w.setCell ⟨g, i, none⟩ (.slice Ay ys.length cy)) lo A0 c0 zs := by
    intro A0 c0 zs h0
    refine h0.grown hs2 fun g' e => ?_
    rcases h0.2 with ⟨e1, _⟩ | ⟨g1, c1, cur1, e1, _, hh1, _⟩
    · rw [e] at e1; simp at e1
    rcases h.own.2 with ⟨e2, _⟩ | ⟨g2, c2, cur2, e2, _, hh2, _⟩
    · simp at e2
    rw [e] at e1
    simp only [Value.slice.injEq, Option.some.injEq, Addr.mk.injEq, and_true] at e1 e2
    obtain ⟨rfl, _⟩ := e1
    obtain ⟨rfl, _⟩ := e2
    rintro ⟨⟩
    rw [hh1] at hh2
    simp at hh2
  refine ⟨?_, fun k hk => ?_, fun a b hab hb g' e => ?_⟩
  · rw [List.length_set]
    have e : ((List.range xss.length).map fun k => Value.slice (putS R i Ay cy k).1 (row (xss.set i ys) k).length (putS R i Ay cy k).2) =
        ((List.range xss.length).map fun k => Value.slice (R k).1 (row xss k).length (R k).2).set i (.slice Ay ys.length cy) := by
      apply List.ext_getElem
      · simp
      · intro k h1 h2
        simp only [List.length_map, List.length_range] at h1
        rw [List.getElem_set]
        simp only [List.getElem_map, List.getElem_range, putS]
        rw [hrow k h1]
        by_cases e : k = i
        · subst e; simp
        · rw [if_neg e, if_neg e, if_neg (fun e' => e e'.symm)]
    rw [e]
    exact hs1
  · rw [List.length_set] at hk
    rw [hrow k hk]
    simp only [putS]
    by_cases e : k = i
    · rw [if_pos e, if_pos e]; exact hne hr
    · rw [if_neg e, if_neg e]; exact hne (h.rows k hk)
  · rw [List.length_set] at hb
    simp only [putS] at e ⊢
    by_cases ea : a = i
    · rw [if_pos ea] at e
      rw [if_neg (by omega)]
      intro e'
      exact hap b hb (by omega) g' e' e
    · rw [if_neg ea] at e
      by_cases eb : b = i
      · rw [if_pos eb]; exact hap a (by omega) ea g' e
      · rw [if_neg eb]; exact h.apart a b hab hb g' e

/-- make([]int64, n). -/
theorem OwnI.made (w : World) (n : Nat) (hn : n ≤ maxLen) {lo : Nat} (hlo : lo ≤ w.heap.size) : OwnI (w.alloc (.cells (madeCells #[.int .i64 0] n) 2)) lo (some ⟨w.heap.size, 0, none⟩) n (List.replicate n 0) := by
  have := World.ownsRow_lit (e := 2) (size := 1) w (madeCells #[.int .i64 0] n) n hlo hn (by rw [size_madeCells]; omega)
  rw [toList_madeCells_one] at this
  unfold OwnI
  simpa using this
theorem OwnM.made (w : World) (n : Nat) (hn : n ≤ maxLen) {lo : Nat} (hlo : lo ≤ w.heap.size) :
    OwnM (w.alloc (.cells (madeCells #[.slice none 0 0] n) 43)) lo (some ⟨w.heap.size, 0, none⟩) n (fun _ => (none, 0)) (List.replicate n []) := by
  have hr : ∀ k, row (List.replicate n ([] : List Int)) k = [] := by
    intro k; simp only [row, List.getElem?_replicate]; split <;> rfl
  have := World.ownsRow_lit (e := 43) (size := 1) w (madeCells #[.slice none 0 0] n) n hlo hn (by rw [size_madeCells]; omega)
  rw [toList_madeCells_one] at this
  refine ⟨?_, fun k _ => by rw [hr]; exact OwnI.nil_ _ _, fun _ _ _ _ _ e => by simp at e⟩
  have e : ((List.range (List.replicate n ([] : List Int)).length).map fun k => Value.slice none (row (List.replicate n ([] : List Int)) k).length 0) = List.replicate n (.slice none 0 0) := by
    rw [List.length_replicate]
    apply List.ext_getElem
    · simp
    · intro k h1 h2; simp [hr]
  show World.ownsRow _ _ _ _ _ _ (List.map (fun k => Value.slice none (row (List.replicate n ([] : List Int)) k).length 0) _)
  rw [e, List.length_replicate]
  exact this
end Go.Proofs.Ythgbfgdnljgicab
