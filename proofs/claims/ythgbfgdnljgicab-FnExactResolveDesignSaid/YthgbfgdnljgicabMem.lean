/-
  What a slice of int64 (and a slice of such slices) reads as, and what the call owns: predicates over the model's memory and how they are kept. Conditions: none beyond those stated in each theorem.
-/
import Derived.Test.YthgbfgdnljgicabProg
import Derived.WalkKit
import Derived.WalkSpells
import Derived.WalkLawsBesides
import Derived.WalkSmall
import Derived.Lib.Hide
import Derived.Deep.QuietTactic
import Derived.BigQuiet
import Derived.Deep.OwnRows
import Derived.Deep.DeepMust
import Derived.Deep.DeepFit
import Derived.Deep.LoopGhost
import Derived.Deep.DeepCutAuto
import Derived.Maps.AppendAt
namespace Go.Proofs.Ythgbfgdnljgicab
open Go.RowKit
set_option linter.unusedVariables false
set_option linter.unusedSimpArgs false

/-- The k-th number of a list, 0 behind its end. -/
def nth (xs : List Int) (k : Nat) : Int := (xs[k]?).getD 0
/-- The k-th row of a list of lists, empty behind its end. -/
def row (xss : List (List Int)) (k : Nat) : List Int := (xss[k]?).getD []

theorem nth_eq {xs : List Int} {k : Nat} (h : k < xs.length) : nth xs k = xs[k] := by simp [nth, h]
theorem row_eq {xss : List (List Int)} {k : Nat} (h : k < xss.length) : row xss k = xss[k] := by simp [row, h]
theorem nth_some {xs : List Int} {k : Nat} (h : k < xs.length) : xs[k]? = some (nth xs k) := by simp [nth, h]
theorem row_some {xss : List (List Int)} {k : Nat} (h : k < xss.length) : xss[k]? = some (row xss k) := by simp [row, h]
theorem take_nth {xs : List Int} {k : Nat} (h : k < xs.length) : xs.take (k + 1) = xs.take k ++ [nth xs k] := by
  rw [List.take_add_one, nth_some h]; rfl
theorem take_row {xss : List (List Int)} {k : Nat} (h : k < xss.length) : xss.take (k + 1) = xss.take k ++ [row xss k] := by
  rw [List.take_add_one, row_some h]; rfl

/-- An int64 as the model has it. -/
def Is64 (n : Int) : Prop := -9223372036854775808 ≤ n ∧ n ≤ 9223372036854775807
def Wf (xs : List Int) : Prop := ∀ k, k < xs.length → -9223372036854775808 ≤ nth xs k ∧ nth xs k ≤ 9223372036854775807

/-- The slice value '.slice A xs.length c' reads as xs. -/
structure RdI (w : World) (A : Option Addr) (c : Nat) (xs : List Int) : Prop where
  le : xs.length ≤ c
  cap : c ≤ maxLen
  at_ : ∀ k, k < xs.length → ∃ b off, A = some ⟨b, off, none⟩ ∧ b < w.heap.size ∧ w.cell? ⟨b, off + k, none⟩ = some (.int .i64 (nth xs k))

/-- Row k of a slice of slices: its address, its capacity. -/
abbrev Spine := Nat → Option Addr × Nat

structure RdM (w : World) (A : Option Addr) (c : Nat) (R : Spine) (xss : List (List Int)) : Prop where
  le : xss.length ≤ c
  cap : c ≤ maxLen
  at_ : ∀ k, k < xss.length → ∃ b off, A = some ⟨b, off, none⟩ ∧ b < w.heap.size ∧ w.cell? ⟨b, off + k, none⟩ = some (.slice (R k).1 (row xss k).length (R k).2)
  rows : ∀ k, k < xss.length → RdI w (R k).1 (R k).2 (row xss k)

section
variable {w w' : World} {A : Option Addr} {c : Nat} {xs : List Int} {R : Spine} {xss : List (List Int)}

theorem RdI.keep (h : RdI w A c xs) (hs : w.heap.size ≤ w'.heap.size) (hk : ∀ p : Addr, p.block < w.heap.size → w'.cell? p = w.cell? p) : RdI w' A c xs :=
  ⟨h.le, h.cap, fun k hk' => by
    obtain ⟨b, off, e, hb, hc⟩ := h.at_ k hk'
    exact ⟨b, off, e, by omega, (hk ⟨b, off + k, none⟩ hb).trans hc⟩⟩
theorem RdI.below (h : RdI w A c xs) (hb : Below w.heap.size w w') : RdI w' A c xs := h.keep hb.size fun _ hp => hb.cell hp
theorem RdM.keep (h : RdM w A c R xss) (hs : w.heap.size ≤ w'.heap.size) (hk : ∀ p : Addr, p.block < w.heap.size → w'.cell? p = w.cell? p) : RdM w' A c R xss :=
  ⟨h.le, h.cap, fun k hk' => by
    obtain ⟨b, off, e, hb, hc⟩ := h.at_ k hk'
    exact ⟨b, off, e, by omega, (hk ⟨b, off + k, none⟩ hb).trans hc⟩, fun k hk' => (h.rows k hk').keep hs hk⟩
theorem RdM.below (h : RdM w A c R xss) (hb : Below w.heap.size w w') : RdM w' A c R xss := h.keep hb.size fun _ hp => hb.cell hp
theorem RdI.nil_ : RdI w none 0 [] := ⟨Nat.le_refl _, by simp, fun _ h => absurd h (by simp)⟩
theorem RdM.nil_ : RdM w none 0 R [] := ⟨Nat.le_refl _, by simp, fun _ h => absurd h (by simp), fun _ h => absurd h (by simp)⟩
theorem RdI.drewN (h : RdI w A c xs) (n : Nat) : RdI (w.drewN n) A c xs := ⟨h.le, h.cap, h.at_⟩
theorem RdI.of_drewN {n : Nat} (h : RdI (w.drewN n) A c xs) : RdI w A c xs := ⟨h.le, h.cap, h.at_⟩
theorem RdM.drewN (h : RdM w A c R xss) (n : Nat) : RdM (w.drewN n) A c R xss := ⟨h.le, h.cap, h.at_, fun k hk => (h.rows k hk).drewN n⟩
theorem below_drewN {B : Nat} {a : World} (h : Below B a w) (n : Nat) : Below B a (w.drewN n) := ⟨h.os, h.tape, h.output, h.size, h.block⟩
end

/-- The slice value '.slice A xs.length c' is the call's own (its block from lo on), and reads as xs. -/
def OwnI (w : World) (lo : Nat) (A : Option Addr) (c : Nat) (xs : List Int) : Prop :=
  w.ownsRow lo 2 1 (.slice A xs.length c) xs.length (xs.map (Value.int .i64))

theorem cell_size {w : World} {a : Addr} {v : Value} (h : w.cell? a = some v) : a.block < w.heap.size := World.block_lt_of_cell? w a h

section
variable {w w' : World} {lo lo' : Nat} {A : Option Addr} {c : Nat} {xs : List Int}

/-- What an owned slice is: nothing; or the head of a block. -/
theorem OwnI.form (h : OwnI w lo A c xs) : (A = none ∧ c = 0 ∧ xs = []) ∨ ∃ g, A = some ⟨g, 0, none⟩ ∧ lo ≤ g ∧ g < w.heap.size ∧ xs.length ≤ c ∧ c ≤ maxLen := by
  rcases h.2 with ⟨e, hn⟩ | ⟨g, cap, cur, e, hg, hh, hc, hm, _, _⟩
  · injection e with e1 e2 e3
    exact .inl ⟨e1, e3, List.eq_nil_of_length_eq_zero hn⟩
  · injection e with e1 e2 e3
    subst e3
    exact .inr ⟨g, e1, hg, (Array.getElem?_eq_some_iff.1 hh).1, hc, hm⟩

theorem OwnI.rd (h : OwnI w lo A c xs) : RdI w A c xs := by
  rcases h.form with ⟨rfl, rfl, rfl⟩ | ⟨g, rfl, hg, hlt, hc, hm⟩
  · exact RdI.nil_
  · refine ⟨hc, hm, fun k hk => ⟨g, 0, rfl, hlt, ?_⟩⟩
    have := World.ownsRow.cellAt h k (by omega)
    rw [Nat.zero_add, this]
    simp [nth, hk]

theorem OwnI.of_block (h : OwnI w lo A c xs) (hb : ∀ g, A = some ⟨g, 0, none⟩ → w'.heap[g]? = w.heap[g]?) : OwnI w' lo A c xs := by
  refine ⟨h.1, ?_⟩
  rcases h.2 with hn | ⟨g, cap, cur, e, hg, hh, r⟩
  · exact .inl hn
  · refine .inr ⟨g, cap, cur, e, hg, ?_, r⟩
    injection e with e1
    rw [hb g e1]
    exact hh

theorem OwnI.lt (h : OwnI w lo A c xs) {g : Nat} (e : A = some ⟨g, 0, none⟩) : lo ≤ g ∧ g < w.heap.size := by
  rcases h.form with ⟨e', _⟩ | ⟨g', e', hg, hlt, _⟩
  · rw [e] at e'; cases e'
  · rw [e] at e'; injection e' with e'; injection e' with e'; subst e'; exact ⟨hg, hlt⟩

theorem OwnI.below (h : OwnI w lo A c xs) (hb : Below w.heap.size w w') : OwnI w' lo A c xs :=
  h.of_block fun g e => hb.block g (h.lt e).2
theorem OwnI.lower (h : OwnI w lo A c xs) (hl : lo' ≤ lo) : OwnI w lo' A c xs := by
  refine ⟨h.1, ?_⟩
  rcases h.2 with hn | ⟨g, cap, cur, e, hg, r⟩
  · exact .inl hn
  · exact .inr ⟨g, cap, cur, e, by omega, r⟩
theorem OwnI.drewN (h : OwnI w lo A c xs) (n : Nat) : OwnI (w.drewN n) lo A c xs := h
theorem OwnI.nil_ (w : World) (lo : Nat) : OwnI w lo none 0 [] := ⟨by simp, .inl ⟨rfl, rfl⟩⟩
theorem OwnI.alloc (h : OwnI w lo A c xs) (o : Obj) : OwnI (w.alloc o) lo A c xs :=
  h.of_block fun g e => Below.heap_alloc w o g (h.lt e).2
theorem OwnI.setCell_other (h : OwnI w lo A c xs) {p : Addr} (hp : ∀ g, A = some ⟨g, 0, none⟩ → g ≠ p.block) (u : Value) : OwnI (w.setCell p u) lo A c xs :=
  h.of_block fun g e => Below.heap_setCell w p u g (hp g e)
/-- A store into an owned slice. -/
theorem OwnI.stored {g : Nat} (h : OwnI w lo (some ⟨g, 0, none⟩) c xs) (j : Nat) (x : Int) : OwnI (w.setCell ⟨g, j, none⟩ (.int .i64 x)) lo (some ⟨g, 0, none⟩) c (xs.set j x) := by
  have := (World.ownsRow.stored h j (.int .i64 x)).1
  unfold OwnI
  rw [List.length_set, List.map_set]
  exact this
theorem OwnI.frozen {g : Nat} (h : OwnI w lo (some ⟨g, 0, none⟩) c xs) (j : Nat) : w.frozen? ⟨g, j, none⟩ = false := World.ownsRow.frozenAt h j
end

/-- The block of an address. -/
def blk (A : Option Addr) : Option Nat := A.map (·.block)
theorem blk_some (g o : Nat) : blk (some ⟨g, o, none⟩) = some g := rfl

section
variable {w w' : World} {lo : Nat} {A : Option Addr} {c : Nat} {xs : List Int}
theorem OwnI.at_ (h : OwnI w lo A c xs) {k : Nat} (hk : k < xs.length) : ∃ g, A = some ⟨g, 0, none⟩ ∧ lo ≤ g ∧ g < w.heap.size ∧ w.cell? ⟨g, k, none⟩ = some (.int .i64 (nth xs k)) ∧ w.frozen? ⟨g, k, none⟩ = false := by
  rcases h.form with ⟨rfl, rfl, rfl⟩ | ⟨g, rfl, hg, hlt, hc, hm⟩
  · simp at hk
  · refine ⟨g, rfl, hg, hlt, ?_, h.frozen k⟩
    rw [World.ownsRow.cellAt h k (by omega)]
    simp [nth, hk]
theorem OwnI.le (h : OwnI w lo A c xs) : xs.length ≤ maxLen := by have := h.rd.le; have := h.rd.cap; omega
theorem OwnI.grown (h : OwnI w lo A c xs) {r : Option Nat} (hg : w.grownBy w' r) (hne : ∀ g, A = some ⟨g, 0, none⟩ → r ≠ some g) : OwnI w' lo A c xs :=
  h.of_block fun g e => hg.block g (h.lt e).2 (fun e' => hne g e e'.symm)
theorem grownBy_trans {a b d : World} {r : Option Nat} (h : a.grownBy b r) (k : b.grownBy d r) : a.grownBy d r :=
  ⟨k.os.trans h.os, k.tape.trans h.tape, k.output.trans h.output, Nat.le_trans h.size k.size, fun i hi hn => (k.block i (Nat.lt_of_lt_of_le hi h.size) hn).trans (h.block i hi hn)⟩
theorem grownBy_setCell (w : World) (p : Addr) (u : Value) : w.grownBy (w.setCell p u) (some p.block) :=
  ⟨rfl, rfl, rfl, by simp [World.setCell], fun k _ hk => Below.heap_setCell w p u k (fun e => hk (by rw [e]))⟩
theorem grownBy_drewN {a b : World} {r : Option Nat} (h : a.grownBy b r) (n : Nat) : a.grownBy (b.drewN n) r := ⟨h.os, h.tape, h.output, h.size, h.block⟩
theorem grownBy_alloc' {a b : World} {r : Option Nat} (h : a.grownBy b r) (o : Obj) : a.grownBy (b.alloc o) r := grownBy_trans h (World.grownBy_alloc b o r)
theorem Below.of_grown {w w' : World} {r : Option Nat} {B : Nat} (h : w.grownBy w' r) (hB : B ≤ w.heap.size) (hr : ∀ g, r = some g → B ≤ g) : Below B w w' :=
  (Below.refl B w).grown h hB hr
theorem grownBy_of_below {w w' : World} (h : Below w.heap.size w w') (r : Option Nat) : w.grownBy w' r := ⟨h.os, h.tape, h.output, h.size, fun i hi _ => h.block i hi⟩
end

/-- k0, k0 + 1, .. : n numbers. -/
def upFrom (k0 : Int) (n : Nat) : List Int := (List.range n).map fun (j : Nat) => k0 + (j : Int)
theorem length_upFrom (k0 : Int) (n : Nat) : (upFrom k0 n).length = n := by simp [upFrom]
theorem nth_upFrom {k0 : Int} {n k : Nat} (h : k < n) : nth (upFrom k0 n) k = k0 + (k : Int) := by simp [nth, upFrom, h]
/-- The first k numbers written over. -/
def mkd (k0 : Int) (k : Nat) (xs : List Int) : List Int := upFrom k0 k ++ xs.drop k
theorem mkd_zero (k0 : Int) (xs : List Int) : mkd k0 0 xs = xs := by simp [mkd, upFrom]
theorem length_mkd {k0 : Int} {k : Nat} {xs : List Int} (h : k ≤ xs.length) : (mkd k0 k xs).length = xs.length := by simp [mkd, length_upFrom]; omega
theorem mkd_all (k0 : Int) (xs : List Int) : mkd k0 xs.length xs = upFrom k0 xs.length := by simp [mkd]
theorem mkd_set {k0 : Int} {k : Nat} {xs : List Int} (h : k < xs.length) : (mkd k0 k xs).set k (k0 + (k : Int)) = mkd k0 (k + 1) xs := by
  unfold mkd
  rw [List.set_append_right _ _ (by simp [length_upFrom]), length_upFrom, Nat.sub_self, List.drop_eq_getElem_cons h, List.set_cons_zero]
  simp [upFrom, List.range_succ]

/-- All numbers of all rows, counted. -/
def tot (xss : List (List Int)) : Nat := (xss.map List.length).sum
theorem tot_nil : tot [] = 0 := rfl
theorem tot_append (a b : List (List Int)) : tot (a ++ b) = tot a + tot b := by simp [tot]
theorem tot_one (x : List Int) : tot [x] = x.length := by simp [tot]
theorem tot_take_succ {xss : List (List Int)} {k : Nat} (h : k < xss.length) : tot (xss.take (k + 1)) = tot (xss.take k) + (row xss k).length := by
  rw [take_row h, tot_append, tot_one]
theorem tot_take_le (xss : List (List Int)) (k : Nat) : tot (xss.take k) ≤ tot xss := by
  have := tot_append (xss.take k) (xss.drop k)
  rw [List.take_append_drop] at this
  omega
theorem row_le_tot {xss : List (List Int)} {k : Nat} (h : k < xss.length) : tot (xss.take k) + (row xss k).length ≤ tot xss := by
  rw [← tot_take_succ h]; exact tot_take_le xss _

/-- A slice of slices that is the call's own, its rows in blocks that part from each other. -/
structure OwnM (w : World) (lo : Nat) (A : Option Addr) (c : Nat) (R : Spine) (xss : List (List Int)) : Prop where
  own : w.ownsRow lo 43 1 (.slice A xss.length c) xss.length ((List.range xss.length).map fun k => .slice (R k).1 (row xss k).length (R k).2)
  rows : ∀ k, k < xss.length → OwnI w lo (R k).1 (R k).2 (row xss k)
  apart : ∀ i j, i < j → j < xss.length → ∀ g, (R i).1 = some ⟨g, 0, none⟩ → (R j).1 ≠ some ⟨g, 0, none⟩

section
variable {w w' : World} {lo lo' : Nat} {A : Option Addr} {c : Nat} {R : Spine} {xss : List (List Int)}

theorem OwnM.form (h : OwnM w lo A c R xss) : (A = none ∧ c = 0 ∧ xss = []) ∨ ∃ g, A = some ⟨g, 0, none⟩ ∧ lo ≤ g ∧ g < w.heap.size ∧ xss.length ≤ c ∧ c ≤ maxLen := by
  rcases h.own.2 with ⟨e, hn⟩ | ⟨g, cap, cur, e, hg, hh, hc, hm, _, _⟩
  · injection e with e1 e2 e3
    exact .inl ⟨e1, e3, List.eq_nil_of_length_eq_zero hn⟩
  · injection e with e1 e2 e3
    subst e3
    exact .inr ⟨g, e1, hg, (Array.getElem?_eq_some_iff.1 hh).1, hc, hm⟩

theorem OwnM.rd (h : OwnM w lo A c R xss) : RdM w A c R xss := by
  have hr : ∀ k, k < xss.length → RdI w (R k).1 (R k).2 (row xss k) := fun k hk => (h.rows k hk).rd
  rcases h.form with ⟨rfl, rfl, rfl⟩ | ⟨g, rfl, hg, hlt, hc, hm⟩
  · exact RdM.nil_
  · refine ⟨hc, hm, fun k hk => ⟨g, 0, rfl, hlt, ?_⟩, hr⟩
    have := World.ownsRow.cellAt h.own k (by omega)
    rw [Nat.zero_add, this]
    simp [hk]

theorem OwnM.lt (h : OwnM w lo A c R xss) {g : Nat} (e : A = some ⟨g, 0, none⟩) : lo ≤ g ∧ g < w.heap.size := by
  rcases h.form with ⟨e', _⟩ | ⟨g', e', hg, hlt, _⟩
  · rw [e] at e'; cases e'
  · rw [e] at e'; injection e' with e'; injection e' with e'; subst e'; exact ⟨hg, hlt⟩

theorem OwnM.below (h : OwnM w lo A c R xss) (hb : Below w.heap.size w w') : OwnM w' lo A c R xss := by
  refine ⟨⟨h.own.1, ?_⟩, fun k hk => (h.rows k hk).below hb, h.apart⟩
  rcases h.own.2 with hn | ⟨g, cap, cur, e, hg, hh, r⟩
  · exact .inl hn
  · exact .inr ⟨g, cap, cur, e, hg, by rw [hb.block g (Array.getElem?_eq_some_iff.1 hh).1]; exact hh, r⟩
theorem OwnM.lower (h : OwnM w lo A c R xss) (hl : lo' ≤ lo) : OwnM w lo' A c R xss := by
  refine ⟨⟨h.own.1, ?_⟩, fun k hk => (h.rows k hk).lower hl, h.apart⟩
  rcases h.own.2 with hn | ⟨g, cap, cur, e, hg, r⟩
  · exact .inl hn
  · exact .inr ⟨g, cap, cur, e, by omega, r⟩
theorem OwnM.drewN (h : OwnM w lo A c R xss) (n : Nat) : OwnM (w.drewN n) lo A c R xss := ⟨h.own, h.rows, h.apart⟩
theorem OwnM.at_ (h : OwnM w lo A c R xss) {k : Nat} (hk : k < xss.length) : ∃ g, A = some ⟨g, 0, none⟩ ∧ lo ≤ g ∧ g < w.heap.size ∧ w.cell? ⟨g, k, none⟩ = some (.slice (R k).1 (row xss k).length (R k).2) ∧ w.frozen? ⟨g, k, none⟩ = false := by
  rcases h.form with ⟨rfl, rfl, rfl⟩ | ⟨g, rfl, hg, hlt, hc, hm⟩
  · simp at hk
  · refine ⟨g, rfl, hg, hlt, ?_, World.ownsRow.frozenAt h.own k⟩
    rw [World.ownsRow.cellAt h.own k (by omega)]
    simp [hk]
/-- The outer block is none of the rows' blocks: their element types part. -/
theorem OwnM.outer_ne (h : OwnM w lo A c R xss) {k : Nat} (hk : k < xss.length) {g : Nat} (e : A = some ⟨g, 0, none⟩) : (R k).1 ≠ some ⟨g, 0, none⟩ := by
  intro e'
  have h1 := h.own.2
  have h2 := (h.rows k hk).2
  rw [e] at h1
  rw [e'] at h2
  rcases h1 with ⟨h1, _⟩ | ⟨g1, c1, cur1, h1, _, hh1, _⟩
  · simp at h1
  rcases h2 with ⟨h2, _⟩ | ⟨g2, c2, cur2, h2, _, hh2, _⟩
  · simp at h2
  simp only [Value.slice.injEq, Option.some.injEq, Addr.mk.injEq, and_true] at h1 h2
  obtain ⟨rfl, _⟩ := h1
  obtain ⟨rfl, _⟩ := h2
  rw [hh1] at hh2
  simp at hh2
/-- A step that turns one row's block alone, and leaves it a row of the same length. -/
theorem OwnM.row_turned (h : OwnM w lo A c R xss) {i : Nat} (hi : i < xss.length) {ys : List Int} (hl : ys.length = (row xss i).length) (hr : OwnI w' lo (R i).1 (R i).2 ys) (hg : w.grownBy w' (blk (R i).1)) :
    OwnM w' lo A c R (xss.set i ys) := by
  have hrow : ∀ k, k < xss.length → row (xss.set i ys) k = if k = i then ys else row xss k := by
    intro k hk
    by_cases e : k = i
    · subst e; simp [row, hk]
    · rw [if_neg e]; simp [row, List.getElem?_set_ne (fun e' => e e'.symm)]
  have hlen : ∀ k, k < xss.length → (row (xss.set i ys) k).length = (row xss k).length := by
    intro k hk
    rw [hrow k hk]
    by_cases e : k = i
    · subst e; rw [if_pos rfl, hl]
    · rw [if_neg e]
  refine ⟨?_, fun k hk => ?_, fun a b hab hb => ?_⟩
  · rw [List.length_set]
    rw [show ((List.range xss.length).map fun k => Value.slice (R k).1 (row (xss.set i ys) k).length (R k).2) = (List.range xss.length).map fun k => Value.slice (R k).1 (row xss k).length (R k).2 from
      List.map_congr_left fun k hk => by rw [hlen k (List.mem_range.1 hk)]]
    refine ⟨h.own.1, ?_⟩
    rcases h.own.2 with hn | ⟨g, cap, cur, e, hlo, hh, r⟩
    · exact .inl hn
    · refine .inr ⟨g, cap, cur, e, hlo, ?_, r⟩
      rw [hg.block g (Array.getElem?_eq_some_iff.1 hh).1 ?_]
      · exact hh
      · injection e with e1 _ _
        have := h.outer_ne hi e1
        rcases (h.rows i hi).form with ⟨e2, _⟩ | ⟨g', e2, _⟩
        · rw [e2]; simp [blk]
        · rw [e2] at this ⊢
          simp only [blk_some, ne_eq, Option.some.injEq]
          rintro rfl
          exact this rfl
  · rw [List.length_set] at hk
    rw [hrow k hk]
    by_cases e : k = i
    · subst e; rw [if_pos rfl]; exact hr
    · rw [if_neg e]
      refine (h.rows k hk).grown hg fun g eg => ?_
      rcases (h.rows i hi).form with ⟨e2, _⟩ | ⟨g', e2, _⟩
      · rw [e2]; simp [blk]
      · rw [e2, blk_some]
        rintro ⟨⟩
        rcases Nat.lt_or_gt_of_ne e with hlt | hlt
        · exact h.apart k i hlt hi g eg e2
        · exact h.apart i k hlt hk g e2 eg
  · rw [List.length_set] at hb
    exact h.apart a b hab hb
theorem OwnM.nil_ (w : World) (lo : Nat) (R : Spine) : OwnM w lo none 0 R [] := ⟨⟨by simp, .inl ⟨rfl, rfl⟩⟩, fun _ h => absurd h (by simp), fun _ _ _ h => absurd h (by simp)⟩
end
end Go.Proofs.Ythgbfgdnljgicab
