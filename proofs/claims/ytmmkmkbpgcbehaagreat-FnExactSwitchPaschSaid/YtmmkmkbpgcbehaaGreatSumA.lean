/-
  The append of a whole slice of rows, and slices.Concat of two. Conditions: those of each theorem.
-/
import Derived.Test.YtmmkmkbpgcbehaaGreatMake
namespace Go.Proofs.YtmmkmkbpgcbehaaGreat
open Go.RowKit
set_option linter.unusedVariables false
set_option linter.unusedSimpArgs false

/-- The cells of a slice of rows. -/
def valsM (R : Spine) (xss : List (List Int)) : List Value := (List.range xss.length).map fun k => .slice (R k).1 (row xss k).length (R k).2
theorem valsM_len (R : Spine) (xss : List (List Int)) : (valsM R xss).length = xss.length := by simp [valsM]
theorem valsM_get {R : Spine} {xss : List (List Int)} {k : Nat} (h : k < xss.length) : (valsM R xss)[k]? = some (.slice (R k).1 (row xss k).length (R k).2) := by simp [valsM, h]
theorem run_append_none' {w : World} {base n : Nat} {v : Value} {vals : List Value} (ty : TypeId) (d : Nat) (hown : w.ownsRow base 35 1 v n vals) :
    (Builtin.append_ #[22, 22] ty #[v, .slice none 0 d]).run Tryz.prog w = .ok v w := by
  obtain ⟨i, hi, _⟩ := info_parts infoS
  rcases hown.2 with ⟨rfl, rfl⟩ | ⟨g, cap, cur, rfl, _, _, hnc, _⟩
  · simp [Builtin.append_, run_underlying Tryz.underlying22, sizeOf, typeInfo, hi, Builtin.lenOf, Builtin.firstCells]
  · simp [Builtin.append_, run_underlying Tryz.underlying22, sizeOf, typeInfo, hi, Builtin.lenOf, Builtin.firstCells, hnc, storeCells]
theorem run_appendA {w : World} (ty : TypeId) (lo : Nat) (A : Option Addr) (c n : Nat) (vals : List Value) (B : Option Addr) (m d : Nat) (S : Spine) (yss : List (List Int)) (hown : w.ownsRow lo 35 1 (.slice A n c) n vals)
    (hr : RdM w B d S yss) (hm : yss.length = m) (hlen : n + m ≤ 4398046511104) (hlo : lo ≤ w.heap.size) :
    ∃ A' c' w', (Builtin.append_ #[22, 22] ty #[.slice A n c, .slice B m d]).run Tryz.prog w = .ok (.slice A' (n + m) c') w' ∧ w'.ownsRow lo 35 1 (.slice A' (n + m) c') (n + m) (vals ++ valsM S yss) ∧ w.grownBy w' (blk A) ∧ (blk A' = blk A ∨ blk A' = some w.heap.size) := by
  subst hm
  rcases B with _ | ad
  · have h0 : yss.length = 0 := by
      rcases Nat.eq_zero_or_pos yss.length with h | h
      · exact h
      · obtain ⟨b, off, e, _⟩ := hr.at_ 0 h
        cases e
    rw [h0]
    refine ⟨A, c, w, run_append_none' ty d hown, ?_, ⟨rfl, rfl, rfl, Nat.le_refl _, fun _ _ _ => rfl⟩, .inl rfl⟩
    have : valsM S yss = [] := List.eq_nil_of_length_eq_zero (by rw [valsM_len]; exact h0)
    rw [this, List.append_nil]
    exact hown
  · obtain ⟨i, hi, hz, hz1, hz2⟩ := info_parts infoS
    obtain ⟨v', w', hr', h2, h3, _, h5⟩ := run_append_own_at (P := Tryz.prog) w lo 22 ty 35 i _ 1 24 Tryz.underlying22 hi hz hz1 hz2 rfl (by decide) _ _ _ hown ad yss.length d (valsM S yss) (by rw [valsM_len]; omega) (by
      intro j u hj
      have hjl : j < yss.length := by
        rcases Nat.lt_or_ge j yss.length with h | h
        · exact h
        · rw [List.getElem?_eq_none (by rw [valsM_len]; exact h)] at hj; cases hj
      rw [valsM_get hjl] at hj
      have hj := Option.some.inj hj
      subst hj
      obtain ⟨b, off, e, _, hc⟩ := hr.at_ j hjl
      have e := Option.some.inj e
      subst e
      have h9 : (Addr.mk b off none).add j = ⟨b, off + j, none⟩ := by simp [Addr.add]
      rw [h9]
      exact hc) (by intro u hu; obtain ⟨y, _, rfl⟩ := List.mem_map.1 hu; rfl) (by unfold maxLen; omega) (by omega) hlo
    obtain ⟨A', c', rfl⟩ := slice_of_own' h2
    rw [ownBlock_slice] at h3 h5
    rw [ownBlock_slice] at h5
    exact ⟨A', c', w', hr', h2, h3, h5⟩
where
  slice_of_own' {w : World} {base n : Nat} {v : Value} {xs : List Value} (h : w.ownsRow base 35 1 v n xs) : ∃ A c, v = .slice A n c := by
    rcases h.2 with ⟨rfl, rfl⟩ | ⟨g, cap, cur, rfl, _⟩
    · exact ⟨none, 0, rfl⟩
    · exact ⟨some ⟨g, 0, none⟩, cap, rfl⟩

section
variable {ops : Array Oper} {rest : List Oper} {o : Oper} {a : Act} {K : Act → World → Prop} {Q : Exit → Act → World → Prop} {E : Prop}
theorem stepA_append {w : World} (hgd : o.guard = none) (s x : Operand) (ho : o.op = .call { callee := .builtin .append, args := #[s, x], argTypes := #[22, 22] })
    (lo : Nat) (A : Option Addr) (c n : Nat) (vals : List Value) (B : Option Addr) (m d : Nat) (S : Spine) (yss : List (List Int)) (hs : a.eval s = .slice A n c) (hx : a.eval x = .slice B m d)
    (hown : w.ownsRow lo 35 1 (.slice A n c) n vals) (hr : RdM w B d S yss) (hm : yss.length = m) (hlen : n + m ≤ 4398046511104) (hlo : lo ≤ w.heap.size)
    (h : ∀ A' c' w', w'.ownsRow lo 35 1 (.slice A' (n + m) c') (n + m) (vals ++ valsM S yss) → w.grownBy w' (blk A) → (blk A' = blk A ∨ blk A' = some w.heap.size) → K (a.put o.dst (.slice A' (n + m) c')) w') :
    if Region.wanted o (yielded ops a.tmps) = true then Oper.wp Tryz.prog o a w K Q else E := by
  have hw : Region.wanted o (yielded ops a.tmps) = true := by simp [Region.wanted, hgd]
  rw [if_pos hw]
  obtain ⟨A', c', w', hr', h2, h3, h5⟩ := run_appendA o.type lo A c n vals B m d S yss hown hr hm hlen hlo
  unfold Oper.wp execOp
  simp only [ho, resolve, invoke, builtin, Sem.run_bind, Sem.run_pure, Result.andThen_ok, List.map_toArray, List.map_cons, List.map_nil, hs, hx, hr']
  exact h A' c' w' h2 h3 h5
theorem wpA_append {w : World} (hgd : o.guard = none) (s x : Operand) (ho : o.op = .call { callee := .builtin .append, args := #[s, x], argTypes := #[22, 22] })
    (lo : Nat) (A : Option Addr) (c n : Nat) (vals : List Value) (B : Option Addr) (m d : Nat) (S : Spine) (yss : List (List Int)) (hs : a.eval s = .slice A n c) (hx : a.eval x = .slice B m d)
    (hown : w.ownsRow lo 35 1 (.slice A n c) n vals) (hr : RdM w B d S yss) (hm : yss.length = m) (hlen : n + m ≤ 4398046511104) (hlo : lo ≤ w.heap.size)
    (h : ∀ A' c' w', w'.ownsRow lo 35 1 (.slice A' (n + m) c') (n + m) (vals ++ valsM S yss) → w.grownBy w' (blk A) → (blk A' = blk A ∨ blk A' = some w.heap.size) → wpList Tryz.prog ops Q rest (a.put o.dst (.slice A' (n + m) c')) w') :
    wpList Tryz.prog ops Q (o :: rest) a w := by
  refine wpList_plain hgd fun K hK => ?_
  obtain ⟨A', c', w', hr', h2, h3, h5⟩ := run_appendA o.type lo A c n vals B m d S yss hown hr hm hlen hlo
  unfold Oper.wp execOp
  simp only [ho, resolve, invoke, builtin, Sem.run_bind, Sem.run_pure, Result.andThen_ok, List.map_toArray, List.map_cons, List.map_nil, hs, hx, hr']
  exact hK _ _ (h A' c' w' h2 h3 h5)
end

/-- An owned row of slices lies at its base or behind. -/
theorem below_blkV {w w' : World} {lo B : Nat} {A : Option Addr} {c n : Nat} {vals : List Value} (ho : w.ownsRow lo 35 1 (.slice A n c) n vals) (hg : w.grownBy w' (blk A)) (hB : B ≤ lo) (hs : B ≤ w.heap.size) : Below B w w' :=
  (Below.refl B w).grown hg hs fun g e => by
    rcases ho.2 with ⟨e1, _⟩ | ⟨g1, cap, cur, e1, hl1, _⟩
    · injection e1 with e1; rw [e1] at e; simp [blk] at e
    · injection e1 with e1; rw [e1, blk_some] at e; injection e with e; omega
theorem ownsV_below {w w' : World} {lo n c : Nat} {A : Option Addr} {vals : List Value} (h : w.ownsRow lo 35 1 (.slice A n c) n vals) (hb : Below w.heap.size w w') : w'.ownsRow lo 35 1 (.slice A n c) n vals := by
  refine ⟨h.1, ?_⟩
  rcases h.2 with hn | ⟨g, cap, cur, e, hg, hh, r⟩
  · exact .inl hn
  · exact .inr ⟨g, cap, cur, e, hg, by rw [hb.block g (Array.getElem?_eq_some_iff.1 hh).1]; exact hh, r⟩
def joinS (R S : Spine) (n : Nat) : Spine := fun k => if k < n then R k else S (k - n)
theorem RdM.joined {w : World} {lo c : Nat} {A : Option Addr} {R S : Spine} {xss yss : List (List Int)} (h : w.ownsRow lo 35 1 (.slice A (xss.length + yss.length) c) (xss.length + yss.length) (valsM R xss ++ valsM S yss))
    (hx : ∀ k, k < xss.length → RdI w (R k).1 (R k).2 (row xss k)) (hy : ∀ k, k < yss.length → RdI w (S k).1 (S k).2 (row yss k)) :
    RdM w A c (joinS R S xss.length) (xss ++ yss) := by
  have hrow : ∀ k, row (xss ++ yss) k = if k < xss.length then row xss k else row yss (k - xss.length) := fun k => by
    by_cases h1 : k < xss.length
    · rw [if_pos h1]; simp [row, List.getElem?_append_left h1]
    · rw [if_neg h1]; simp [row, List.getElem?_append_right (Nat.le_of_not_lt h1)]
  have hrows : ∀ k, k < (xss ++ yss).length → RdI w (joinS R S xss.length k).1 (joinS R S xss.length k).2 (row (xss ++ yss) k) := fun k hk => by
    rw [List.length_append] at hk
    rw [hrow]
    unfold joinS
    by_cases h1 : k < xss.length
    · rw [if_pos h1, if_pos h1]; exact hx k h1
    · rw [if_neg h1, if_neg h1]; exact hy _ (by omega)
  rcases h.2 with ⟨e, h0⟩ | ⟨g, cap, cur, e, hg, hh, hc, hm, _, _⟩
  · injection e with e1 e2 e3
    subst e1 e3
    exact ⟨by rw [List.length_append]; omega, by unfold maxLen; omega, fun k hk => absurd hk (by rw [List.length_append]; omega), hrows⟩
  · injection e with e1 e2 e3
    subst e1 e3
    refine ⟨by rw [List.length_append]; exact hc, hm, fun k hk => ⟨g, 0, rfl, (Array.getElem?_eq_some_iff.1 hh).1, ?_⟩, hrows⟩
    rw [List.length_append] at hk
    rw [Nat.zero_add, World.ownsRow.cellAt h k (by omega), hrow]
    unfold joinS
    by_cases h1 : k < xss.length
    · rw [if_pos h1, if_pos h1, List.getElem?_append_left (by rw [valsM_len]; exact h1), valsM_get h1]
    · rw [if_neg h1, if_neg h1, List.getElem?_append_right (by rw [valsM_len]; omega), valsM_len, valsM_get (by omega)]
end Go.Proofs.YtmmkmkbpgcbehaaGreat
