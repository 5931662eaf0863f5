/-
  l10Sort of the reference: lists in ascending order, one put in behind the other. Conditions: those of each theorem.
-/
import Derived.Test.YtmmkmkbpgcbehaaGreatSortM
import Derived.Test.YtmmkmkbpgcbehaaGreatGa
namespace Go.Proofs.YtmmkmkbpgcbehaaGreat
open Go.RowKit
set_option linter.unusedVariables false
set_option linter.unusedSimpArgs false

/-- The walk stands here until the goal is shown again. -/
theorem stop_ {p : Prop} (h : Hid p) : p := h.out
/-- A row: its address, its capacity, what it holds. -/
abbrev Row3 := Option Addr × Nat × List Int
def rv (d : Row3) : Value := .slice d.1 d.2.2.length d.2.1
def Apart (d e : Row3) : Prop := ∀ g, d.1 = some ⟨g, 0, none⟩ → e.1 ≠ some ⟨g, 0, none⟩
theorem Apart.symm {d e : Row3} (h : Apart d e) : Apart e d := fun g h1 h2 => h g h2 h1
def cont (ds : List Row3) : List (List Int) := ds.map fun d => d.2.2
structure OwnD (w : World) (lo : Nat) (A : Option Addr) (c : Nat) (ds : List Row3) : Prop where
  own : w.ownsRow lo 35 1 (.slice A ds.length c) ds.length (ds.map rv)
  rows : ∀ d ∈ ds, OwnI w lo d.1 d.2.1 d.2.2
  apart : ds.Pairwise Apart
theorem OwnD.toM {w : World} {lo : Nat} {A : Option Addr} {c : Nat} {ds : List Row3} (h : OwnD w lo A c ds) : ∃ R, OwnM w lo A c R (cont ds) := by
  have hl : (cont ds).length = ds.length := by simp [cont]
  have hrow : ∀ k, (hk : k < ds.length) → row (cont ds) k = ds[k].2.2 := fun k hk => by rw [row_eq (by omega)]; simp [cont]
  refine ⟨fun k => ((ds[k]?).map (fun d => (d.1, d.2.1))).getD (none, 0), ⟨?_, fun k hk => ?_, fun i j hij hj g e => ?_⟩⟩
  · rw [hl]
    rw [show ((List.range ds.length).map fun k => Value.slice (((ds[k]?).map (fun d => (d.1, d.2.1))).getD (none, 0)).1 (row (cont ds) k).length (((ds[k]?).map (fun d => (d.1, d.2.1))).getD (none, 0)).2) = ds.map rv from by
      apply List.ext_getElem
      · simp
      · intro k h1 h2
        have hk : k < ds.length := by simpa using h1
        simp only [List.getElem_map, List.getElem_range]
        rw [hrow k hk]
        simp [hk, rv]]
    exact h.own
  · have hk' : k < ds.length := by omega
    rw [hrow k hk']
    have := h.rows ds[k] (List.getElem_mem hk')
    simpa [hk'] using this
  · have hj' : j < ds.length := by omega
    have hi' : i < ds.length := by omega
    have := (List.pairwise_iff_getElem.1 h.apart) i j hi' hj' hij g (by simpa [hi'] using e)
    simpa [hj'] using this
theorem OwnD.lit0 (w : World) {lo : Nat} (h : lo ≤ w.heap.size) : OwnD (w.alloc (.cells #[] 35)) lo (some ⟨w.heap.size, 0, none⟩) 0 [] :=
  ⟨World.ownsRow_lit (e := 35) (size := 1) w #[] 0 h (by unfold maxLen; omega) rfl, fun _ h => absurd h (by simp), List.Pairwise.nil⟩

/-- A step that turns a block of rows keeps each slice of numbers. -/
theorem OwnI.other_type {w w' : World} {lo lo' n : Nat} {A A0 : Option Addr} {c c0 : Nat} {vals : List Value} {zs : List Int} (ho : w.ownsRow lo' 35 1 (.slice A n c) n vals) (hg : w.grownBy w' (blk A)) (h : OwnI w lo A0 c0 zs) : OwnI w' lo A0 c0 zs := by
  refine h.grown hg fun g e => ?_
  rcases h.2 with ⟨e1, _⟩ | ⟨g1, c1, cur1, e1, _, hh1, _⟩
  · rw [e] at e1; simp at e1
  · rw [e] at e1
    simp only [Value.slice.injEq, Option.some.injEq, Addr.mk.injEq, and_true] at e1
    obtain ⟨rfl, _⟩ := e1
    intro e2
    rcases ho.2 with ⟨e3, _⟩ | ⟨g3, c3, cur3, e3, _, hh3, _⟩
    · injection e3 with e3 _ _; subst e3; simp [blk] at e2
    · injection e3 with e3 _ _
      subst e3
      simp only [blk_some, Option.some.injEq] at e2
      subst e2
      rw [hh1] at hh3
      simp at hh3
theorem ownR_keep {w w' : World} {lo n : Nat} {A : Option Addr} {c : Nat} {vals : List Value} (ho : w.ownsRow lo 35 1 (.slice A n c) n vals) (hb : ∀ g, A = some ⟨g, 0, none⟩ → w'.heap[g]? = w.heap[g]?) : w'.ownsRow lo 35 1 (.slice A n c) n vals := by
  refine ⟨ho.1, ?_⟩
  rcases ho.2 with hn | ⟨g, cap, cur, e, hg, hh, r⟩
  · exact .inl hn
  · refine .inr ⟨g, cap, cur, e, hg, ?_, r⟩
    injection e with e1
    rw [hb g e1]
    exact hh
theorem ownR_lt {w : World} {lo n g : Nat} {c : Nat} {vals : List Value} (ho : w.ownsRow lo 35 1 (.slice (some ⟨g, 0, none⟩) n c) n vals) : lo ≤ g ∧ g < w.heap.size ∧ n ≤ c ∧ c ≤ maxLen := by
  rcases ho.2 with ⟨e, _⟩ | ⟨g1, cap, cur, e, hg, hh, hc, hm, _⟩
  · cases e
  · injection e with e1 e2 e3
    injection e1 with e1
    injection e1 with e1
    subst e1 e3
    exact ⟨hg, (Array.getElem?_eq_some_iff.1 hh).1, hc, hm⟩

section
variable {ops : Array Oper} {rest : List Oper} {o : Oper} {a : Act} {Q : Exit → Act → World → Prop}
theorem wpR_append {w : World} (hgd : o.guard = none) (s x : Operand) (ho : o.op = .call { callee := .builtin .append, args := #[s, x], argTypes := #[22, 22] })
    (lo g : Nat) (c n : Nat) (vals : List Value) (ad : Addr) (m d : Nat) (news : List Row3) (hs : a.eval s = .slice (some ⟨g, 0, none⟩) n c) (hx : a.eval x = .slice (some ad) m d)
    (hown : w.ownsRow lo 35 1 (.slice (some ⟨g, 0, none⟩) n c) n vals) (hl : news.length = m) (hnews : ∀ j u, (news.map rv)[j]? = some u → w.cell? (ad.add j) = some u) (hlen : n + m ≤ 4398046511104) (hlo : lo ≤ w.heap.size)
    (h : ∀ g' c' w', w'.ownsRow lo 35 1 (.slice (some ⟨g', 0, none⟩) (n + m) c') (n + m) (vals ++ news.map rv) → w.grownBy w' (some g) → (g' = g ∨ g' = w.heap.size) → wpList Tryz.prog ops Q rest (a.put o.dst (.slice (some ⟨g', 0, none⟩) (n + m) c')) w') :
    wpList Tryz.prog ops Q (o :: rest) a w := by
  obtain ⟨i, hi, hz, hz1, hz2⟩ := info_parts infoS
  refine wpList_append_own_at w hgd s x 22 ho lo 35 i _ 1 24 Tryz.underlying22 hi hz hz1 hz2 rfl (by decide) _ _ _ hs hown ad m d (news.map rv) hx (by simp [hl]) hnews ?_ ?_ ?_ hlo ?_
  · intro u hu
    obtain ⟨y, _, rfl⟩ := List.mem_map.1 hu
    rfl
  · unfold maxLen; omega
  · omega
  · intro v' w' h2 h3 h4 h5
    rcases h2.2 with ⟨e, hn0⟩ | ⟨g', cap, cur, e, _⟩
    · have := (h4.1 e).1
      cases this
    · subst e
      refine h g' cap w' h2 h3 ?_
      rcases h5 with h5 | h5
      · left; have h6 : some g' = some g := h5; injection h6
      · right; have h6 : some g' = some w.heap.size := h5; injection h6
end

/-! ### Where a list goes -/
theorem ins_sorted {cs : List (List Int)} {x : List Int} {k : Nat} (hs : cs.Pairwise fun a b => cmpL a b ≤ 0) (hk : k ≤ cs.length) (h1 : 0 < k → cmpL (row cs (k - 1)) x ≤ 0) (h2 : ∀ j, k ≤ j → j < cs.length → 0 < cmpL (row cs j) x) :
    (cs.take k ++ ([x] ++ cs.drop k)).Pairwise fun a b => cmpL a b ≤ 0 := by
  have hlow : ∀ a ∈ cs.take k, cmpL a x ≤ 0 := fun a ha => by
    obtain ⟨j, hj, rfl⟩ := List.mem_iff_getElem.1 ha
    have hj' : j < k := by simp at hj; omega
    rw [List.getElem_take]
    have h3 := h1 (by omega)
    by_cases e : j = k - 1
    · subst e; rwa [row_eq (by omega)] at h3
    · have h4 := (List.pairwise_iff_getElem.1 hs) j (k - 1) (by omega) (by omega) (by omega)
      rw [row_eq (by omega)] at h3
      exact cmpL_trans h4 h3
  have hhigh : ∀ b ∈ cs.drop k, cmpL x b ≤ 0 := fun b hb => by
    obtain ⟨j, hj, rfl⟩ := List.mem_iff_getElem.1 hb
    rw [List.length_drop] at hj
    rw [List.getElem_drop]
    have h3 := h2 (k + j) (by omega) (by omega)
    rw [row_eq (by omega)] at h3
    have := cmpL_neg x cs[k + j]
    omega
  rw [List.pairwise_append]
  refine ⟨hs.take, List.pairwise_append.2 ⟨List.pairwise_singleton _ _, hs.drop, fun a ha b hb => ?_⟩, fun a ha b hb => ?_⟩
  · rw [List.mem_singleton] at ha; subst ha; exact hhigh b hb
  · rcases List.mem_append.1 hb with hb | hb
    · rw [List.mem_singleton] at hb; subst hb; exact hlow a ha
    · exact cmpL_trans (hlow a ha) (hhigh b hb)
theorem ins_perm {α : Type} (cs : List α) (x : α) (k : Nat) : (cs.take k ++ ([x] ++ cs.drop k)).Perm (cs ++ [x]) := by
  have h1 : (cs.take k ++ ([x] ++ cs.drop k)).Perm ([x] ++ (cs.take k ++ cs.drop k)) := by
    rw [← List.append_assoc, ← List.append_assoc]
    exact List.Perm.append_right _ List.perm_append_comm
  rw [List.take_append_drop] at h1
  exact h1.trans List.perm_append_comm
theorem ins_next {xss : List (List Int)} {i k : Nat} (hi : i < xss.length) (hk : k ≤ (sortLL (xss.take i)).length) (h1 : 0 < k → cmpL (row (sortLL (xss.take i)) (k - 1)) (row xss i) ≤ 0) (h2 : ∀ j, k ≤ j → j < (sortLL (xss.take i)).length → 0 < cmpL (row (sortLL (xss.take i)) j) (row xss i)) :
    (sortLL (xss.take i)).take k ++ ([row xss i] ++ (sortLL (xss.take i)).drop k) = sortLL (xss.take (i + 1)) := by
  refine sortLL_unique ?_ (ins_sorted (sortLL_pw _) hk h1 h2)
  rw [take_row hi]
  exact (ins_perm _ _ _).trans ((List.mergeSort_perm _ _).append_right _)
theorem apart_ins {ds : List Row3} {x : Row3} {k : Nat} (h : ds.Pairwise Apart) (hx : ∀ d ∈ ds, Apart d x) : (ds.take k ++ ([x] ++ ds.drop k)).Pairwise Apart := by
  refine (List.Perm.pairwise_iff (fun h => Apart.symm h) (ins_perm ds x k)).2 ?_
  rw [List.pairwise_append]
  exact ⟨h, List.pairwise_singleton _ _, fun a ha b hb => by rw [List.mem_singleton] at hb; subst hb; exact hx a ha⟩
end Go.Proofs.YtmmkmkbpgcbehaaGreat
