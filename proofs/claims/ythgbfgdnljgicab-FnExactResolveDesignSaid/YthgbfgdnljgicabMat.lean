/-
  Squares as functions of two places, stores into them, empty literals, append of a whole list; the reference's l00Own and l17Own. Conditions: those of each theorem.
-/
import Derived.Test.YthgbfgdnljgicabSquare
import Derived.Laws.AppendOwnNone
namespace Go.Proofs.Ythgbfgdnljgicab
open Go.RowKit
set_option linter.unusedVariables false
set_option linter.unusedSimpArgs false

theorem OwnI.lit0 (w : World) {lo : Nat} (h : lo ≤ w.heap.size) : OwnI (w.alloc (.cells #[] 2)) lo (some ⟨w.heap.size, 0, none⟩) 0 [] :=
  World.ownsRow_lit (e := 2) (size := 1) w #[] 0 h (by unfold maxLen; omega) rfl
theorem OwnM.lit0 (w : World) {lo : Nat} (h : lo ≤ w.heap.size) (R : Spine) : OwnM (w.alloc (.cells #[] 43)) lo (some ⟨w.heap.size, 0, none⟩) 0 R [] :=
  ⟨World.ownsRow_lit (e := 43) (size := 1) w #[] 0 h (by unfold maxLen; omega) rfl, fun _ h => absurd h (by simp), fun _ _ _ h => absurd h (by simp)⟩

section
variable {ops : Array Oper} {rest : List Oper} {o : Oper} {a : Act} {Q : Exit → Act → World → Prop}
/-- append of all of a list that reads. -/
theorem wpI_appendL {w : World} (hgd : o.guard = none) (s x : Operand) (ho : o.op = .call { callee := .builtin .append, args := #[s, x], argTypes := #[43, 43] })
    (lo : Nat) (A : Option Addr) (c n : Nat) (xs : List Int) (B : Option Addr) (m d : Nat) (ys : List Int) (hs : a.eval s = .slice A n c) (hx : a.eval x = .slice B m d)
    (hn : xs.length = n) (hm : ys.length = m) (hown : OwnI w lo A c xs) (hr : RdI w B d ys) (hd : B = none → d = 0) (hlen : n + m ≤ 17592186044416) (hlo : lo ≤ w.heap.size)
    (h : ∀ A' c' w', OwnI w' lo A' c' (xs ++ ys) → w.grownBy w' (blk A) → (blk A' = blk A ∨ blk A' = some w.heap.size) → wpList Try.prog ops Q rest (a.put o.dst (.slice A' (n + m) c')) w') :
    wpList Try.prog ops Q (o :: rest) a w := by
  obtain ⟨i, hi, hz, hz1, hz2⟩ := info_parts infoI
  subst hn hm
  rcases B with _ | ad
  · have h0 : ys = [] := by
      rcases hy : ys with _ | ⟨y, t⟩
      · rfl
      · obtain ⟨b, off, e, _⟩ := hr.at_ 0 (by rw [hy]; simp)
        cases e
    subst h0
    have := hd rfl
    subst this
    refine wpList_append_own_none hgd s x 43 ho lo 2 i 1 Try.underlying43 hi _ _ _ hs hown hx ?_
    have := h A c w (by rw [List.append_nil]; exact hown) (World.grownBy.refl w _) (.inl rfl)
    exact this
  · refine wpList_append_own_at w hgd s x 43 ho lo 2 i _ 1 8 Try.underlying43 hi hz hz1 hz2 rfl (by decide) _ _ _ hs hown ad ys.length d (ys.map (Value.int .i64)) hx (by simp) ?_ ?_ ?_ ?_ hlo ?_
    · intro j u hj
      have hjl : j < ys.length := by
        rcases Nat.lt_or_ge j ys.length with h1 | h1
        · exact h1
        · rw [List.getElem?_eq_none (by simpa using h1)] at hj; cases hj
      obtain ⟨b, off, e, _, hc⟩ := hr.at_ j hjl
      have e' : ad = ⟨b, off, none⟩ := Option.some.inj e
      have hadd : (⟨b, off, none⟩ : Addr).add j = ⟨b, off + j, none⟩ := by unfold Addr.add; split <;> simp_all
      rw [e', hadd, hc]
      rw [← hj]
      simp [nth_some hjl]
    · intro u hu
      obtain ⟨y, _, rfl⟩ := List.mem_map.1 hu
      rfl
    · unfold maxLen; omega
    · omega
    · intro v' w' h2 h3 _ h5
      obtain ⟨A', c', rfl⟩ := slice_of_own h2
      rw [ownBlock_slice] at h3 h5
      rw [ownBlock_slice] at h5
      refine h A' c' w' ?_ h3 h5
      unfold OwnI
      rw [List.length_append, List.map_append]
      exact h2
end

/-- A slice value that reads: nil has no capacity. -/
theorem OwnI.nil_cap {w : World} {lo : Nat} {A : Option Addr} {c : Nat} {xs : List Int} (h : OwnI w lo A c xs) : A = none → c = 0 := by
  intro e
  rcases h.form with ⟨_, hc, _⟩ | ⟨g, e', _⟩
  · exact hc
  · rw [e] at e'; cases e'

set_option maxHeartbeats 400000 in
theorem l00Own_c (w : World) (A : Option Addr) (n c : Nat) (xs : List Int) (hr : RdI w A c xs) (hn : xs.length = n) (hd : A = none → c = 0) (hz : n ≤ 1048576) :
    Calls Try.prog 30 #[.slice A n c] w (PostS w xs) := by
  have H0 := Lib.hid (OwnI.lit0 w (Nat.le_refl w.heap.size))
  have HR := Lib.hid (hr.below ((Below.refl w.heap.size w).alloc (Nat.le_refl _) (.cells #[] 2)))
  have HN := Lib.hid hn
  have HD := Lib.hid hd
  clear hr hn hd
  go_enter Try.func30, Try.ntmps30
  go_wp2_with (at_builtin
               refine wpI_appendL rfl _ _ rfl w.heap.size _ _ 0 [] A n c xs rfl rfl rfl HN.out H0.out HR.out HD.out (by omega) (by simp) ?_
               intro A' c' w' ho hg ha)
  have HO := Lib.hid ho
  have hB : Below w.heap.size w w' := ((Below.refl _ _).alloc (Nat.le_refl _) _).trans (below_blk H0.out hg (Nat.le_refl _) (by simp))
  clear ho hg ha
  go_wp2
  go_ret
  exact ⟨⟨A', _, c', rfl, by rw [HN.out], HO.out⟩, hB⟩

/-- Each row's nil has no capacity. -/
def NilCap (R : Spine) (n : Nat) : Prop := ∀ k, k < n → (R k).1 = none → (R k).2 = 0
theorem OwnM.nilCap {w : World} {lo : Nat} {A : Option Addr} {c : Nat} {R : Spine} {xss : List (List Int)} (h : OwnM w lo A c R xss) : NilCap R xss.length :=
  fun k hk => (h.rows k hk).nil_cap
/-- Where every row holds something there is no nil. -/
theorem nilCap_of_rows {w : World} {A : Option Addr} {c : Nat} {R : Spine} {xss : List (List Int)} (h : RdM w A c R xss) (hp : ∀ k, k < xss.length → 0 < (row xss k).length) : NilCap R xss.length := fun k hk e => by
  obtain ⟨b, off, e', _⟩ := (h.rows k hk).at_ 0 (hp k hk)
  rw [e] at e'
  cases e'

theorem OwnM.drew {w : World} {lo : Nat} {A : Option Addr} {c : Nat} {R : Spine} {xss : List (List Int)} (h : OwnM w lo A c R xss) : OwnM w.drew lo A c R xss := ⟨h.own, h.rows, h.apart⟩

/-! ### Squares as functions -/

def upd (f : Nat → Nat → Int) (i j : Nat) (v : Int) : Nat → Nat → Int := fun x y => if x = i ∧ y = j then v else f x y
theorem sqTo_congr {f g : Nat → Nat → Int} {m k : Nat} (h : ∀ x y, x < k → y < m → f x y = g x y) : sqTo f m k = sqTo g m k := by
  unfold sqTo
  refine List.map_congr_left fun x hx => ?_
  unfold rowTo
  exact List.map_congr_left fun y hy => h x y (List.mem_range.1 hx) (List.mem_range.1 hy)
/-- A list of k rows of m numbers, as a function. -/
theorem sq_of {h : List (List Int)} {m k : Nat} (hk : h.length = k) (hm : ∀ x, x < k → (row h x).length = m) : h = sqTo (fun x y => nth (row h x) y) m k := by
  apply List.ext_getElem
  · rw [hk, length_sqTo]
  · intro x h1 h2
    have hx : x < k := by omega
    have e1 : h[x] = row h x := (row_eq h1).symm
    have e2 : (sqTo (fun x y => nth (row h x) y) m k)[x] = rowTo (fun x y => nth (row h x) y) x m := by rw [← row_eq h2, row_sqTo hx]
    rw [e1, e2]
    apply List.ext_getElem
    · rw [hm x hx, length_rowTo]
    · intro y h3 h4
      rw [← nth_eq h3, ← nth_eq h4, nth_rowTo (by rw [length_rowTo] at h4; exact h4)]
theorem sqTo_set {f : Nat → Nat → Int} {m k i j : Nat} {v : Int} (hi : i < k) (hj : j < m) :
    (sqTo f m k).set i ((row (sqTo f m k) i).set j v) = sqTo (upd f i j v) m k := by
  rw [row_sqTo hi]
  apply List.ext_getElem
  · simp [length_sqTo]
  · intro x h1 h2
    have hx : x < k := by rw [length_sqTo] at h2; exact h2
    have e2 : (sqTo (upd f i j v) m k)[x] = rowTo (upd f i j v) x m := by rw [← row_eq h2, row_sqTo hx]
    rw [List.getElem_set, e2]
    by_cases e : i = x
    · subst e
      rw [if_pos rfl]
      apply List.ext_getElem
      · simp [length_rowTo]
      · intro y h3 h4
        have hy : y < m := by rw [length_rowTo] at h4; exact h4
        rw [List.getElem_set, ← nth_eq h4, nth_rowTo hy]
        unfold upd
        by_cases e' : j = y
        · subst e'; simp
        · rw [if_neg e', if_neg (fun h => e' h.2.symm)]
          rw [← nth_eq (by rw [length_rowTo]; exact hy), nth_rowTo hy]
    · rw [if_neg e]
      have : (sqTo f m k)[x]'(by rw [length_sqTo]; exact hx) = rowTo f x m := by rw [← row_eq (by rw [length_sqTo]; exact hx), row_sqTo hx]
      rw [this]
      unfold rowTo
      exact List.map_congr_left fun y _ => by unfold upd; rw [if_neg (fun h => e h.1.symm)]

/-- What is known of the place (i, j) of an owned square, and what a store there leaves. -/
theorem OwnM.sq_at {w : World} {lo : Nat} {A : Option Addr} {c : Nat} {R : Spine} {f : Nat → Nat → Int} {m k i j : Nat} (h : OwnM w lo A c R (sqTo f m k)) (hi : i < k) (hj : j < m) :
    ∃ g g' C, A = some ⟨g, 0, none⟩ ∧ w.cell? ⟨g, i, none⟩ = some (.slice (some ⟨g', 0, none⟩) m C) ∧ w.cell? ⟨g', j, none⟩ = some (.int .i64 (f i j)) ∧ w.frozen? ⟨g', j, none⟩ = false ∧
      lo ≤ g' ∧ g' < w.heap.size ∧ ∀ v, OwnM (w.setCell ⟨g', j, none⟩ (.int .i64 v)) lo A c R (sqTo (upd f i j v) m k) := by
  have hi' : i < (sqTo f m k).length := by rw [length_sqTo]; exact hi
  obtain ⟨g, e, _, _, hc, _⟩ := h.at_ hi'
  have hrow := h.rows i hi'
  rw [row_sqTo hi] at hrow hc
  rw [length_rowTo] at hc
  obtain ⟨g', e', hl, hlt, hcj, hf⟩ := hrow.at_ (k := j) (by rw [length_rowTo]; exact hj)
  rw [nth_rowTo hj] at hcj
  refine ⟨g, g', (R i).2, e, by rw [hc, e'], hcj, hf, hl, hlt, fun v => ?_⟩
  rw [← sqTo_set hi hj]
  rw [e'] at hrow
  refine h.row_turned hi' (by rw [row_sqTo hi]; simp) ?_ ?_
  · rw [row_sqTo hi, e']
    exact hrow.stored j v
  · rw [e', blk_some]
    exact grownBy_setCell w ⟨g', j, none⟩ (.int .i64 v)
/-- The same of a square that reads. -/
theorem RdM.sq_at {w : World} {A : Option Addr} {c : Nat} {R : Spine} {f : Nat → Nat → Int} {m k i j : Nat} (h : RdM w A c R (sqTo f m k)) (hi : i < k) (hj : j < m) :
    ∃ b off b' off' C, A = some ⟨b, off, none⟩ ∧ b < w.heap.size ∧ w.cell? ⟨b, off + i, none⟩ = some (.slice (some ⟨b', off', none⟩) m C) ∧ b' < w.heap.size ∧ w.cell? ⟨b', off' + j, none⟩ = some (.int .i64 (f i j)) := by
  have hi' : i < (sqTo f m k).length := by rw [length_sqTo]; exact hi
  obtain ⟨b, off, e, hb, hc⟩ := h.at_ i hi'
  have hrow := h.rows i hi'
  rw [row_sqTo hi] at hrow hc
  rw [length_rowTo] at hc
  obtain ⟨b', off', e', hb', hcj⟩ := hrow.at_ j (by rw [length_rowTo]; exact hj)
  rw [nth_rowTo hj] at hcj
  exact ⟨b, off, b', off', (R i).2, e, hb, by rw [hc, e'], hb', hcj⟩
end Go.Proofs.Ythgbfgdnljgicab
