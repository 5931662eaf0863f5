/-
  Slices of slices of slices that grow: append of a plane. Conditions: those of each theorem.
-/
import Derived.Test.YtcdbbcnoleilfaaTri
import Derived.Test.YtcdbbcnoleilfaaSquare
namespace Go.Proofs.Ytcdbbcnoleilfaa
open Go.RowKit
set_option linter.unusedVariables false
set_option linter.unusedSimpArgs false

/-- It returned slices of slices of slices of its own, and a code. -/
def PostLC (w : World) (x : List (List (List Int))) (k : Int) (e : Ending) (w' : World) : Prop :=
  (∃ A n c S I, e = .returned (.tuple #[.slice A n c, .int .i64 k]) ∧ x.length = n ∧ OwnL w' w.heap.size w'.heap.size A c S I x) ∧ Below w.heap.size w w'
def PostL (w : World) (x : List (List (List Int))) (e : Ending) (w' : World) : Prop :=
  (∃ A n c S I, e = .returned (.slice A n c) ∧ x.length = n ∧ OwnL w' w.heap.size w'.heap.size A c S I x) ∧ Below w.heap.size w w'
theorem OwnL.nil_ (w : World) (lo hi : Nat) (S : Spine3) (I : Nat → Nat × Nat) : OwnL w lo hi none 0 S I [] :=
  ⟨⟨by simp, .inl ⟨rfl, rfl⟩⟩, (fun _ e => nomatch e), fun _ h => absurd h (by simp), fun _ h => absurd h (by simp), fun _ h => absurd h (by simp), fun _ _ _ h => absurd h (by simp)⟩
theorem OwnL.lit0 (w : World) {lo hi : Nat} (h : lo ≤ w.heap.size) (h2 : w.heap.size < hi) (S : Spine3) (I : Nat → Nat × Nat) : OwnL (w.alloc (.cells #[] 22)) lo hi (some ⟨w.heap.size, 0, none⟩) 0 S I [] :=
  ⟨World.ownsRow_lit (e := 22) (size := 1) w #[] 0 h (by unfold maxLen; omega) rfl, fun g e => by injection e with e; injection e with e; omega, fun _ h => absurd h (by simp), fun _ h => absurd h (by simp), fun _ h => absurd h (by simp), fun _ _ _ h => absurd h (by simp)⟩
theorem pln_append_lt {x : List (List (List Int))} {ys : List (List Int)} {k : Nat} (h : k < x.length) : pln (x ++ [ys]) k = pln x k := by simp [pln, List.getElem?_append_left h]
theorem pln_append_eq {x : List (List (List Int))} {ys : List (List Int)} : pln (x ++ [ys]) x.length = ys := by simp [pln]
theorem OwnL.longer {w w' : World} {lo hi : Nat} {A A' : Option Addr} {c c' : Nat} {S : Spine3} {I : Nat → Nat × Nat} {x : List (List (List Int))} {Ay : Option Addr} {cy : Nat} {Ry : Spine} {ys : List (List Int)} {a b : Nat}
    (h : OwnL w lo hi A c S I x) (hr : InM w a b Ay cy Ry ys) (hla : lo ≤ a) (ha : hi ≤ a) (hab : a ≤ b) (hb : b ≤ w.heap.size)
    (hown : w'.ownsRow lo 22 1 (.slice A' (x.length + 1) c') (x.length + 1) (((List.range x.length).map fun k => .slice (S k).1 (pln x k).length (S k).2.1) ++ [.slice Ay ys.length cy])) (hg : w.grownBy w' (blk A)) (hA : blk A' = blk A ∨ blk A' = some w.heap.size) :
    OwnL w' lo (w.heap.size + 1) A' c' (putP S x.length Ay cy Ry) (putI I x.length a b) (x ++ [ys]) := by
  have hbA : ∀ g, blk A = some g → A = some ⟨g, 0, none⟩ := fun g e => by
    rcases h.form with ⟨e1, _⟩ | ⟨g', e1, _⟩
    · rw [e1] at e; simp [blk] at e
    · rw [e1, blk_some] at e; injection e with e; subst e; exact e1
  have hnew : ∀ k, k < w.heap.size → (∀ g, A = some ⟨g, 0, none⟩ → k ≠ g) → w'.heap[k]? = w.heap[k]? := fun k hk hne => hg.block k hk fun e => hne k (hbA k e.symm) rfl
  have hA' : ∀ g, A' = some ⟨g, 0, none⟩ → A = some ⟨g, 0, none⟩ ∨ g = w.heap.size := fun g e => by
    rcases hA with h1 | h1
    · rw [e, blk_some] at h1; exact .inl (hbA g h1.symm)
    · rw [e, blk_some] at h1; injection h1 with h1; exact .inr h1
  have hin : ∀ k, k < x.length → (I k).2 ≤ w.heap.size := fun k hk => by have := (h.inn k hk).2; omega
  refine ⟨?_, fun g e => ?_, fun k hk => ?_, fun k hk => ?_, fun k hk g e => ?_, fun i j hij hi' hj => ?_⟩
  · have e : ((List.range (x ++ [ys]).length).map fun k => Value.slice (putP S x.length Ay cy Ry k).1 (pln (x ++ [ys]) k).length (putP S x.length Ay cy Ry k).2.1) =
        ((List.range x.length).map fun k => .slice (S k).1 (pln x k).length (S k).2.1) ++ [.slice Ay ys.length cy] := by
      rw [List.length_append, List.length_singleton, List.range_succ, List.map_append]
      congr 1
      · refine List.map_congr_left fun k hk' => ?_
        have := List.mem_range.1 hk'
        simp only [putP]
        rw [if_neg (by omega), pln_append_lt this]
      · simp only [List.map_cons, List.map_nil, putP, if_true]
        rw [pln_append_eq]
    rw [e, List.length_append, List.length_singleton]
    exact hown
  · rcases hA' g e with h1 | h1
    · have := h.top g h1; omega
    · omega
  · rw [List.length_append, List.length_singleton] at hk
    simp only [putP, putI]
    by_cases e : k = x.length
    · rw [if_pos e, if_pos e, e, pln_append_eq]
      exact hr.step fun j h1 h2 => hnew j (by have h3 : j < b := h2; omega) (fun g eg => by have := h.top g eg; have h3 : a ≤ j := h1; omega)
    · rw [if_neg e, if_neg e, pln_append_lt (by omega)]
      have hk' : k < x.length := by omega
      exact (h.rows k hk').step fun j h1 h2 => hnew j (by have := hin k hk'; omega) (fun g eg => by have := h.out k hk' g eg; omega)
  · rw [List.length_append, List.length_singleton] at hk
    simp only [putI]
    by_cases e : k = x.length
    · rw [if_pos e]; exact ⟨hla, by show b ≤ _; omega⟩
    · rw [if_neg e]; have := h.inn k (by omega); have := hin k (by omega); omega
  · rw [List.length_append, List.length_singleton] at hk
    simp only [putI]
    by_cases ek : k = x.length
    · rw [if_pos ek]
      rcases hA' g e with h1 | h1
      · left; have := h.top g h1; show g < a; omega
      · right; show b ≤ g; omega
    · rw [if_neg ek]
      rcases hA' g e with h1 | h1
      · exact h.out k (by omega) g h1
      · right; have := hin k (by omega); omega
  · rw [List.length_append, List.length_singleton] at hi' hj
    simp only [putI]
    by_cases e : i = x.length
    · rw [if_pos e, if_neg (by omega)]
      right; have := (h.inn j (by omega)).2; show (I j).2 ≤ a; omega
    · rw [if_neg e]
      by_cases e2 : j = x.length
      · rw [if_pos e2]
        left; have := (h.inn i (by omega)).2; show (I i).2 ≤ a; omega
      · rw [if_neg e2]; exact h.apart i j hij (by omega) (by omega)

section
variable {ops : Array Oper} {rest : List Oper} {o : Oper} {a : Act} {Q : Exit → Act → World → Prop}
theorem wpL_append {w : World} (hgd : o.guard = none) (s x : Operand) (ho : o.op = .call { callee := .builtin .append, args := #[s, x], argTypes := #[28, 28] })
    (lo hi : Nat) (A : Option Addr) (c n : Nat) (S : Spine3) (I : Nat → Nat × Nat) (xs : List (List (List Int))) (Ay : Option Addr) (ny cy : Nat) (Ry : Spine) (ys : List (List Int)) (la lb bx : Nat) (hs : a.eval s = .slice A n c) (hx : a.eval x = .slice (some ⟨bx, 0, none⟩) 1 1)
    (hn : xs.length = n) (hny : ys.length = ny) (hown : OwnL w lo hi A c S I xs) (hr : InM w la lb Ay cy Ry ys) (hla : lo ≤ la) (ha : hi ≤ la) (hab : la ≤ lb) (hb : lb ≤ w.heap.size)
    (hcell : w.cell? ⟨bx, 0, none⟩ = some (.slice Ay ny cy)) (hlen : n + 1 ≤ 4398046511104) (hlo : lo ≤ w.heap.size)
    (h : ∀ A' c' S' I' w', OwnL w' lo w'.heap.size A' c' S' I' (xs ++ [ys]) → w.grownBy w' (blk A) → wpList Try.prog ops Q rest (a.put o.dst (.slice A' (n + 1) c')) w') :
    wpList Try.prog ops Q (o :: rest) a w := by
  obtain ⟨i, hi', hz, hz1, hz2⟩ := info_parts infoM
  subst hn hny
  refine wpList_append_own_at w hgd s x 28 ho lo 22 i _ 1 24 Try.underlying28 hi' hz hz1 hz2 rfl (by decide) _ _ _ hs hown.own ⟨bx, 0, none⟩ 1 1 [.slice Ay ys.length cy] hx rfl ?_ ?_ ?_ ?_ hlo ?_
  · intro j u hj
    match j, hj with
    | 0, hj => simp at hj; subst hj; exact hcell
  · intro u hu; simp at hu; subst hu; rfl
  · unfold maxLen; omega
  · omega
  · intro v' w' h2 h3 _ h5
    obtain ⟨A', c', rfl⟩ := slice_of_own h2
    rw [ownBlock_slice] at h3 h5
    rw [ownBlock_slice] at h5
    have hL := hown.longer hr hla ha hab hb h2 h3 h5
    have hsz : w.heap.size + 1 ≤ w'.heap.size ∨ ∀ g, A' = some ⟨g, 0, none⟩ → g < w.heap.size := by
      rcases h5 with h6 | h6
      · right
        intro g e
        rcases hown.form with ⟨e1, _⟩ | ⟨g', e1, _, hlt, _⟩
        · rw [e, e1] at h6; simp [blk] at h6
        · rw [e, e1, blk_some, blk_some] at h6; injection h6 with h6; omega
      · left
        rcases h2.2 with ⟨e1, hn0⟩ | ⟨g', cap, cur, e1, _, hh, _⟩
        · simp at hn0
        · injection e1 with e1 _ _
          rw [e1, blk_some] at h6
          injection h6 with h6
          have := (Array.getElem?_eq_some_iff.1 hh).1
          omega
    refine h A' c' _ _ w' ⟨hL.own, fun g e => ?_, hL.rows, fun k hk => ⟨(hL.inn k hk).1, ?_⟩, hL.out, hL.apart⟩ h3
    · rcases hsz with h6 | h6
      · have := hL.top g e; omega
      · have := h6 g e; have := h3.size; omega
    · have h7 := h3.size
      rw [List.length_append, List.length_singleton] at hk
      simp only [putI]
      by_cases e : k = xs.length
      · rw [if_pos e]; show lb ≤ _; omega
      · rw [if_neg e]; have := (hown.inn k (by omega)).2; omega
end
end Go.Proofs.Ytcdbbcnoleilfaa
