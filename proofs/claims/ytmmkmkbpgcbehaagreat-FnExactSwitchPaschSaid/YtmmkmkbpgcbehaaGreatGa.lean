/-
  Texts of this claim, one behind the other. Conditions: those of each theorem.
-/
import Derived.Test.YtmmkmkbpgcbehaaGreatProg
import Derived.WalkKit
import Derived.WalkSpells
import Derived.WalkLawsBesides
import Derived.WalkSmall
import Derived.Lib.Hide
import Derived.Deep.QuietTactic
import Derived.BigQuiet
import Derived.Deep.OwnRows
import Derived.Deep.DeepMust
import Derived.Deep.DeepFit
import Derived.Deep.LoopGhost
import Derived.Deep.DeepCutAuto
import Derived.Maps.AppendAt
import Derived.Shelf.GgClosure.Gives
import Derived.Laws.AppendOwnNone

/-
  What a slice of int64 (and a slice of such slices) reads as, and what the call owns: predicates over the model's memory and how they are kept. Conditions: none beyond those stated in each theorem.
-/
namespace Go.Proofs.YtmmkmkbpgcbehaaGreat
open Go.RowKit
set_option linter.unusedVariables false
set_option linter.unusedSimpArgs false

/-- The k-th number of a list, 0 behind its end. -/
def nth (xs : List Int) (k : Nat) : Int := (xs[k]?).getD 0
/-- The k-th row of a list of lists, empty behind its end. -/
def row (xss : List (List Int)) (k : Nat) : List Int := (xss[k]?).getD []

theorem nth_eq {xs : List Int} {k : Nat} (h : k < xs.length) : nth xs k = xs[k] := by simp [nth, h]
theorem row_eq {xss : List (List Int)} {k : Nat} (h : k < xss.length) : row xss k = xss[k] := by simp [row, h]
theorem nth_some {xs : List Int} {k : Nat} (h : k < xs.length) : xs[k]? = some (nth xs k) := by simp [nth, h]
theorem row_some {xss : List (List Int)} {k : Nat} (h : k < xss.length) : xss[k]? = some (row xss k) := by simp [row, h]
theorem take_nth {xs : List Int} {k : Nat} (h : k < xs.length) : xs.take (k + 1) = xs.take k ++ [nth xs k] := by
  rw [List.take_add_one, nth_some h]; rfl
theorem take_row {xss : List (List Int)} {k : Nat} (h : k < xss.length) : xss.take (k + 1) = xss.take k ++ [row xss k] := by
  rw [List.take_add_one, row_some h]; rfl

/-- An int64 as the model has it. -/
def Is64 (n : Int) : Prop := -9223372036854775808 ≤ n ∧ n ≤ 9223372036854775807
def Wf (xs : List Int) : Prop := ∀ k, k < xs.length → -9223372036854775808 ≤ nth xs k ∧ nth xs k ≤ 9223372036854775807

/-- The slice value '.slice A xs.length c' reads as xs. -/
structure RdI (w : World) (A : Option Addr) (c : Nat) (xs : List Int) : Prop where
  le : xs.length ≤ c
  cap : c ≤ maxLen
  at_ : ∀ k, k < xs.length → ∃ b off, A = some ⟨b, off, none⟩ ∧ b < w.heap.size ∧ w.cell? ⟨b, off + k, none⟩ = some (.int .i64 (nth xs k))

/-- Row k of a slice of slices: its address, its capacity. -/
abbrev Spine := Nat → Option Addr × Nat

structure RdM (w : World) (A : Option Addr) (c : Nat) (R : Spine) (xss : List (List Int)) : Prop where
  le : xss.length ≤ c
  cap : c ≤ maxLen
  at_ : ∀ k, k < xss.length → ∃ b off, A = some ⟨b, off, none⟩ ∧ b < w.heap.size ∧ w.cell? ⟨b, off + k, none⟩ = some (.slice (R k).1 (row xss k).length (R k).2)
  rows : ∀ k, k < xss.length → RdI w (R k).1 (R k).2 (row xss k)

section
variable {w w' : World} {A : Option Addr} {c : Nat} {xs : List Int} {R : Spine} {xss : List (List Int)}

theorem RdI.keep (h : RdI w A c xs) (hs : w.heap.size ≤ w'.heap.size) (hk : ∀ p : Addr, p.block < w.heap.size → w'.cell? p = w.cell? p) : RdI w' A c xs :=
  ⟨h.le, h.cap, fun k hk' => by
    obtain ⟨b, off, e, hb, hc⟩ := h.at_ k hk'
    exact ⟨b, off, e, by omega, (hk ⟨b, off + k, none⟩ hb).trans hc⟩⟩
theorem RdI.below (h : RdI w A c xs) (hb : Below w.heap.size w w') : RdI w' A c xs := h.keep hb.size fun _ hp => hb.cell hp
theorem RdM.keep (h : RdM w A c R xss) (hs : w.heap.size ≤ w'.heap.size) (hk : ∀ p : Addr, p.block < w.heap.size → w'.cell? p = w.cell? p) : RdM w' A c R xss :=
  ⟨h.le, h.cap, fun k hk' => by
    obtain ⟨b, off, e, hb, hc⟩ := h.at_ k hk'
    exact ⟨b, off, e, by omega, (hk ⟨b, off + k, none⟩ hb).trans hc⟩, fun k hk' => (h.rows k hk').keep hs hk⟩
theorem RdM.below (h : RdM w A c R xss) (hb : Below w.heap.size w w') : RdM w' A c R xss := h.keep hb.size fun _ hp => hb.cell hp
theorem RdI.nil_ : RdI w none 0 [] := ⟨Nat.le_refl _, by simp, fun _ h => absurd h (by simp)⟩
theorem RdM.nil_ : RdM w none 0 R [] := ⟨Nat.le_refl _, by simp, fun _ h => absurd h (by simp), fun _ h => absurd h (by simp)⟩
theorem RdI.drewN (h : RdI w A c xs) (n : Nat) : RdI (w.drewN n) A c xs := ⟨h.le, h.cap, h.at_⟩
theorem RdI.of_drewN {n : Nat} (h : RdI (w.drewN n) A c xs) : RdI w A c xs := ⟨h.le, h.cap, h.at_⟩
theorem RdM.drewN (h : RdM w A c R xss) (n : Nat) : RdM (w.drewN n) A c R xss := ⟨h.le, h.cap, h.at_, fun k hk => (h.rows k hk).drewN n⟩
theorem below_drewN {B : Nat} {a : World} (h : Below B a w) (n : Nat) : Below B a (w.drewN n) := ⟨h.os, h.tape, h.output, h.size, h.block⟩
end

/-- The slice value '.slice A xs.length c' is the call's own (its block from lo on), and reads as xs. -/
def OwnI (w : World) (lo : Nat) (A : Option Addr) (c : Nat) (xs : List Int) : Prop :=
  w.ownsRow lo 2 1 (.slice A xs.length c) xs.length (xs.map (Value.int .i64))

theorem cell_size {w : World} {a : Addr} {v : Value} (h : w.cell? a = some v) : a.block < w.heap.size := World.block_lt_of_cell? w a h

section
variable {w w' : World} {lo lo' : Nat} {A : Option Addr} {c : Nat} {xs : List Int}

/-- What an owned slice is: nothing; or the head of a block. -/
theorem OwnI.form (h : OwnI w lo A c xs) : (A = none ∧ c = 0 ∧ xs = []) ∨ ∃ g, A = some ⟨g, 0, none⟩ ∧ lo ≤ g ∧ g < w.heap.size ∧ xs.length ≤ c ∧ c ≤ maxLen := by
  rcases h.2 with ⟨e, hn⟩ | ⟨g, cap, cur, e, hg, hh, hc, hm, _, _⟩
  · injection e with e1 e2 e3
    exact .inl ⟨e1, e3, List.eq_nil_of_length_eq_zero hn⟩
  · injection e with e1 e2 e3
    subst e3
    exact .inr ⟨g, e1, hg, (Array.getElem?_eq_some_iff.1 hh).1, hc, hm⟩

theorem OwnI.rd (h : OwnI w lo A c xs) : RdI w A c xs := by
  rcases h.form with ⟨rfl, rfl, rfl⟩ | ⟨g, rfl, hg, hlt, hc, hm⟩
  · exact RdI.nil_
  · refine ⟨hc, hm, fun k hk => ⟨g, 0, rfl, hlt, ?_⟩⟩
    have := World.ownsRow.cellAt h k (by omega)
    rw [Nat.zero_add, this]
    simp [nth, hk]

theorem OwnI.of_block (h : OwnI w lo A c xs) (hb : ∀ g, A = some ⟨g, 0, none⟩ → w'.heap[g]? = w.heap[g]?) : OwnI w' lo A c xs := by
  refine ⟨h.1, ?_⟩
  rcases h.2 with hn | ⟨g, cap, cur, e, hg, hh, r⟩
  · exact .inl hn
  · refine .inr ⟨g, cap, cur, e, hg, ?_, r⟩
    injection e with e1
    rw [hb g e1]
    exact hh

theorem OwnI.lt (h : OwnI w lo A c xs) {g : Nat} (e : A = some ⟨g, 0, none⟩) : lo ≤ g ∧ g < w.heap.size := by
  rcases h.form with ⟨e', _⟩ | ⟨g', e', hg, hlt, _⟩
  · rw [e] at e'; cases e'
  · rw [e] at e'; injection e' with e'; injection e' with e'; subst e'; exact ⟨hg, hlt⟩

theorem OwnI.below (h : OwnI w lo A c xs) (hb : Below w.heap.size w w') : OwnI w' lo A c xs :=
  h.of_block fun g e => hb.block g (h.lt e).2
theorem OwnI.lower (h : OwnI w lo A c xs) (hl : lo' ≤ lo) : OwnI w lo' A c xs := by
  refine ⟨h.1, ?_⟩
  rcases h.2 with hn | ⟨g, cap, cur, e, hg, r⟩
  · exact .inl hn
  · exact .inr ⟨g, cap, cur, e, by omega, r⟩
theorem OwnI.drewN (h : OwnI w lo A c xs) (n : Nat) : OwnI (w.drewN n) lo A c xs := h
theorem OwnI.nil_ (w : World) (lo : Nat) : OwnI w lo none 0 [] := ⟨by simp, .inl ⟨rfl, rfl⟩⟩
theorem OwnI.alloc (h : OwnI w lo A c xs) (o : Obj) : OwnI (w.alloc o) lo A c xs :=
  h.of_block fun g e => Below.heap_alloc w o g (h.lt e).2
theorem OwnI.setCell_other (h : OwnI w lo A c xs) {p : Addr} (hp : ∀ g, A = some ⟨g, 0, none⟩ → g ≠ p.block) (u : Value) : OwnI (w.setCell p u) lo A c xs :=
  h.of_block fun g e => Below.heap_setCell w p u g (hp g e)
/-- A store into an owned slice. -/
theorem OwnI.stored {g : Nat} (h : OwnI w lo (some ⟨g, 0, none⟩) c xs) (j : Nat) (x : Int) : OwnI (w.setCell ⟨g, j, none⟩ (.int .i64 x)) lo (some ⟨g, 0, none⟩) c (xs.set j x) := by
  have := (World.ownsRow.stored h j (.int .i64 x)).1
  unfold OwnI
  rw [List.length_set, List.map_set]
  exact this
theorem OwnI.frozen {g : Nat} (h : OwnI w lo (some ⟨g, 0, none⟩) c xs) (j : Nat) : w.frozen? ⟨g, j, none⟩ = false := World.ownsRow.frozenAt h j
end

/-- The block of an address. -/
def blk (A : Option Addr) : Option Nat := A.map (·.block)
theorem blk_some (g o : Nat) : blk (some ⟨g, o, none⟩) = some g := rfl

section
variable {w w' : World} {lo : Nat} {A : Option Addr} {c : Nat} {xs : List Int}
theorem OwnI.at_ (h : OwnI w lo A c xs) {k : Nat} (hk : k < xs.length) : ∃ g, A = some ⟨g, 0, none⟩ ∧ lo ≤ g ∧ g < w.heap.size ∧ w.cell? ⟨g, k, none⟩ = some (.int .i64 (nth xs k)) ∧ w.frozen? ⟨g, k, none⟩ = false := by
  rcases h.form with ⟨rfl, rfl, rfl⟩ | ⟨g, rfl, hg, hlt, hc, hm⟩
  · simp at hk
  · refine ⟨g, rfl, hg, hlt, ?_, h.frozen k⟩
    rw [World.ownsRow.cellAt h k (by omega)]
    simp [nth, hk]
theorem OwnI.le (h : OwnI w lo A c xs) : xs.length ≤ maxLen := by have := h.rd.le; have := h.rd.cap; omega
theorem OwnI.grown (h : OwnI w lo A c xs) {r : Option Nat} (hg : w.grownBy w' r) (hne : ∀ g, A = some ⟨g, 0, none⟩ → r ≠ some g) : OwnI w' lo A c xs :=
  h.of_block fun g e => hg.block g (h.lt e).2 (fun e' => hne g e e'.symm)
theorem grownBy_trans {a b d : World} {r : Option Nat} (h : a.grownBy b r) (k : b.grownBy d r) : a.grownBy d r :=
  ⟨k.os.trans h.os, k.tape.trans h.tape, k.output.trans h.output, Nat.le_trans h.size k.size, fun i hi hn => (k.block i (Nat.lt_of_lt_of_le hi h.size) hn).trans (h.block i hi hn)⟩
theorem grownBy_setCell (w : World) (p : Addr) (u : Value) : w.grownBy (w.setCell p u) (some p.block) :=
  ⟨rfl, rfl, rfl, by simp [World.setCell], fun k _ hk => Below.heap_setCell w p u k (fun e => hk (by rw [e]))⟩
theorem grownBy_drewN {a b : World} {r : Option Nat} (h : a.grownBy b r) (n : Nat) : a.grownBy (b.drewN n) r := ⟨h.os, h.tape, h.output, h.size, h.block⟩
theorem grownBy_alloc' {a b : World} {r : Option Nat} (h : a.grownBy b r) (o : Obj) : a.grownBy (b.alloc o) r := grownBy_trans h (World.grownBy_alloc b o r)
theorem Below.of_grown {w w' : World} {r : Option Nat} {B : Nat} (h : w.grownBy w' r) (hB : B ≤ w.heap.size) (hr : ∀ g, r = some g → B ≤ g) : Below B w w' :=
  (Below.refl B w).grown h hB hr
theorem grownBy_of_below {w w' : World} (h : Below w.heap.size w w') (r : Option Nat) : w.grownBy w' r := ⟨h.os, h.tape, h.output, h.size, fun i hi _ => h.block i hi⟩
end

/-- k0, k0 + 1, .. : n numbers. -/
def upFrom (k0 : Int) (n : Nat) : List Int := (List.range n).map fun (j : Nat) => k0 + (j : Int)
theorem length_upFrom (k0 : Int) (n : Nat) : (upFrom k0 n).length = n := by simp [upFrom]
theorem nth_upFrom {k0 : Int} {n k : Nat} (h : k < n) : nth (upFrom k0 n) k = k0 + (k : Int) := by simp [nth, upFrom, h]
/-- The first k numbers written over. -/
def mkd (k0 : Int) (k : Nat) (xs : List Int) : List Int := upFrom k0 k ++ xs.drop k
theorem mkd_zero (k0 : Int) (xs : List Int) : mkd k0 0 xs = xs := by simp [mkd, upFrom]
theorem length_mkd {k0 : Int} {k : Nat} {xs : List Int} (h : k ≤ xs.length) : (mkd k0 k xs).length = xs.length := by simp [mkd, length_upFrom]; omega
theorem mkd_all (k0 : Int) (xs : List Int) : mkd k0 xs.length xs = upFrom k0 xs.length := by simp [mkd]
theorem mkd_set {k0 : Int} {k : Nat} {xs : List Int} (h : k < xs.length) : (mkd k0 k xs).set k (k0 + (k : Int)) = mkd k0 (k + 1) xs := by
  unfold mkd
  rw [List.set_append_right _ _ (by simp [length_upFrom]), length_upFrom, Nat.sub_self, List.drop_eq_getElem_cons h, List.set_cons_zero]
  simp [upFrom, List.range_succ]

/-- All numbers of all rows, counted. -/
def tot (xss : List (List Int)) : Nat := (xss.map List.length).sum
theorem tot_nil : tot [] = 0 := rfl
theorem tot_append (a b : List (List Int)) : tot (a ++ b) = tot a + tot b := by simp [tot]
theorem tot_one (x : List Int) : tot [x] = x.length := by simp [tot]
theorem tot_take_succ {xss : List (List Int)} {k : Nat} (h : k < xss.length) : tot (xss.take (k + 1)) = tot (xss.take k) + (row xss k).length := by
  rw [take_row h, tot_append, tot_one]
theorem tot_take_le (xss : List (List Int)) (k : Nat) : tot (xss.take k) ≤ tot xss := by
  have := tot_append (xss.take k) (xss.drop k)
  rw [List.take_append_drop] at this
  omega
theorem row_le_tot {xss : List (List Int)} {k : Nat} (h : k < xss.length) : tot (xss.take k) + (row xss k).length ≤ tot xss := by
  rw [← tot_take_succ h]; exact tot_take_le xss _

/-- A slice of slices that is the call's own, its rows in blocks that part from each other. -/
structure OwnM (w : World) (lo : Nat) (A : Option Addr) (c : Nat) (R : Spine) (xss : List (List Int)) : Prop where
  own : w.ownsRow lo 35 1 (.slice A xss.length c) xss.length ((List.range xss.length).map fun k => .slice (R k).1 (row xss k).length (R k).2)
  rows : ∀ k, k < xss.length → OwnI w lo (R k).1 (R k).2 (row xss k)
  apart : ∀ i j, i < j → j < xss.length → ∀ g, (R i).1 = some ⟨g, 0, none⟩ → (R j).1 ≠ some ⟨g, 0, none⟩

section
variable {w w' : World} {lo lo' : Nat} {A : Option Addr} {c : Nat} {R : Spine} {xss : List (List Int)}

theorem OwnM.form (h : OwnM w lo A c R xss) : (A = none ∧ c = 0 ∧ xss = []) ∨ ∃ g, A = some ⟨g, 0, none⟩ ∧ lo ≤ g ∧ g < w.heap.size ∧ xss.length ≤ c ∧ c ≤ maxLen := by
  rcases h.own.2 with ⟨e, hn⟩ | ⟨g, cap, cur, e, hg, hh, hc, hm, _, _⟩
  · injection e with e1 e2 e3
    exact .inl ⟨e1, e3, List.eq_nil_of_length_eq_zero hn⟩
  · injection e with e1 e2 e3
    subst e3
    exact .inr ⟨g, e1, hg, (Array.getElem?_eq_some_iff.1 hh).1, hc, hm⟩

theorem OwnM.rd (h : OwnM w lo A c R xss) : RdM w A c R xss := by
  have hr : ∀ k, k < xss.length → RdI w (R k).1 (R k).2 (row xss k) := fun k hk => (h.rows k hk).rd
  rcases h.form with ⟨rfl, rfl, rfl⟩ | ⟨g, rfl, hg, hlt, hc, hm⟩
  · exact RdM.nil_
  · refine ⟨hc, hm, fun k hk => ⟨g, 0, rfl, hlt, ?_⟩, hr⟩
    have := World.ownsRow.cellAt h.own k (by omega)
    rw [Nat.zero_add, this]
    simp [hk]

theorem OwnM.lt (h : OwnM w lo A c R xss) {g : Nat} (e : A = some ⟨g, 0, none⟩) : lo ≤ g ∧ g < w.heap.size := by
  rcases h.form with ⟨e', _⟩ | ⟨g', e', hg, hlt, _⟩
  · rw [e] at e'; cases e'
  · rw [e] at e'; injection e' with e'; injection e' with e'; subst e'; exact ⟨hg, hlt⟩

theorem OwnM.below (h : OwnM w lo A c R xss) (hb : Below w.heap.size w w') : OwnM w' lo A c R xss := by
  refine ⟨⟨h.own.1, ?_⟩, fun k hk => (h.rows k hk).below hb, h.apart⟩
  rcases h.own.2 with hn | ⟨g, cap, cur, e, hg, hh, r⟩
  · exact .inl hn
  · exact .inr ⟨g, cap, cur, e, hg, by rw [hb.block g (Array.getElem?_eq_some_iff.1 hh).1]; exact hh, r⟩
theorem OwnM.lower (h : OwnM w lo A c R xss) (hl : lo' ≤ lo) : OwnM w lo' A c R xss := by
  refine ⟨⟨h.own.1, ?_⟩, fun k hk => (h.rows k hk).lower hl, h.apart⟩
  rcases h.own.2 with hn | ⟨g, cap, cur, e, hg, r⟩
  · exact .inl hn
  · exact .inr ⟨g, cap, cur, e, by omega, r⟩
theorem OwnM.drewN (h : OwnM w lo A c R xss) (n : Nat) : OwnM (w.drewN n) lo A c R xss := ⟨h.own, h.rows, h.apart⟩
theorem OwnM.at_ (h : OwnM w lo A c R xss) {k : Nat} (hk : k < xss.length) : ∃ g, A = some ⟨g, 0, none⟩ ∧ lo ≤ g ∧ g < w.heap.size ∧ w.cell? ⟨g, k, none⟩ = some (.slice (R k).1 (row xss k).length (R k).2) ∧ w.frozen? ⟨g, k, none⟩ = false := by
  rcases h.form with ⟨rfl, rfl, rfl⟩ | ⟨g, rfl, hg, hlt, hc, hm⟩
  · simp at hk
  · refine ⟨g, rfl, hg, hlt, ?_, World.ownsRow.frozenAt h.own k⟩
    rw [World.ownsRow.cellAt h.own k (by omega)]
    simp [hk]
/-- The outer block is none of the rows' blocks: their element types part. -/
theorem OwnM.outer_ne (h : OwnM w lo A c R xss) {k : Nat} (hk : k < xss.length) {g : Nat} (e : A = some ⟨g, 0, none⟩) : (R k).1 ≠ some ⟨g, 0, none⟩ := by
  intro e'
  have h1 := h.own.2
  have h2 := (h.rows k hk).2
  rw [e] at h1
  rw [e'] at h2
  rcases h1 with ⟨h1, _⟩ | ⟨g1, c1, cur1, h1, _, hh1, _⟩
  · simp at h1
  rcases h2 with ⟨h2, _⟩ | ⟨g2, c2, cur2, h2, _, hh2, _⟩
  · simp at h2
  simp only [Value.slice.injEq, Option.some.injEq, Addr.mk.injEq, and_true] at h1 h2
  obtain ⟨rfl, _⟩ := h1
  obtain ⟨rfl, _⟩ := h2
  rw [hh1] at hh2
  simp at hh2
/-- A step that turns one row's block alone, and leaves it a row of the same length. -/
theorem OwnM.row_turned (h : OwnM w lo A c R xss) {i : Nat} (hi : i < xss.length) {ys : List Int} (hl : ys.length = (row xss i).length) (hr : OwnI w' lo (R i).1 (R i).2 ys) (hg : w.grownBy w' (blk (R i).1)) :
    OwnM w' lo A c R (xss.set i ys) := by
  have hrow : ∀ k, k < xss.length → row (xss.set i ys) k = if k = i then ys else row xss k := by
    intro k hk
    by_cases e : k = i
    · subst e; simp [row, hk]
    · rw [if_neg e]; simp [row, List.getElem?_set_ne (fun e' => e e'.symm)]
  have hlen : ∀ k, k < xss.length → (row (xss.set i ys) k).length = (row xss k).length := by
    intro k hk
    rw [hrow k hk]
    by_cases e : k = i
    · subst e; rw [if_pos rfl, hl]
    · rw [if_neg e]
  refine ⟨?_, fun k hk => ?_, fun a b hab hb => ?_⟩
  · rw [List.length_set]
    rw [show ((List.range xss.length).map fun k => Value.slice (R k).1 (row (xss.set i ys) k).length (R k).2) = (List.range xss.length).map fun k => Value.slice (R k).1 (row xss k).length (R k).2 from
      List.map_congr_left fun k hk => by rw [hlen k (List.mem_range.1 hk)]]
    refine ⟨h.own.1, ?_⟩
    rcases h.own.2 with hn | ⟨g, cap, cur, e, hlo, hh, r⟩
    · exact .inl hn
    · refine .inr ⟨g, cap, cur, e, hlo, ?_, r⟩
      rw [hg.block g (Array.getElem?_eq_some_iff.1 hh).1 ?_]
      · exact hh
      · injection e with e1 _ _
        have := h.outer_ne hi e1
        rcases (h.rows i hi).form with ⟨e2, _⟩ | ⟨g', e2, _⟩
        · rw [e2]; simp [blk]
        · rw [e2] at this ⊢
          simp only [blk_some, ne_eq, Option.some.injEq]
          rintro rfl
          exact this rfl
  · rw [List.length_set] at hk
    rw [hrow k hk]
    by_cases e : k = i
    · subst e; rw [if_pos rfl]; exact hr
    · rw [if_neg e]
      refine (h.rows k hk).grown hg fun g eg => ?_
      rcases (h.rows i hi).form with ⟨e2, _⟩ | ⟨g', e2, _⟩
      · rw [e2]; simp [blk]
      · rw [e2, blk_some]
        rintro ⟨⟩
        rcases Nat.lt_or_gt_of_ne e with hlt | hlt
        · exact h.apart k i hlt hi g eg e2
        · exact h.apart i k hlt hk g e2 eg
  · rw [List.length_set] at hb
    exact h.apart a b hab hb
theorem OwnM.nil_ (w : World) (lo : Nat) (R : Spine) : OwnM w lo none 0 R [] := ⟨⟨by simp, .inl ⟨rfl, rfl⟩⟩, fun _ h => absurd h (by simp), fun _ _ _ h => absurd h (by simp)⟩
end
end Go.Proofs.YtmmkmkbpgcbehaaGreat

/-
  Laws for append, of one number or of one row, onto a slice of the call's own; for a store of a row. Conditions: those of each theorem.
-/
namespace Go.Proofs.YtmmkmkbpgcbehaaGreat
open Go.RowKit
set_option linter.unusedVariables false
set_option linter.unusedSimpArgs false

theorem infoI : (Tryz.prog.info? 2).map (fun i => (i.zero, i.size, i.bytes)) = some (some (.int .i64 0), 1, 8) := by kernel_rfl
theorem infoS : (Tryz.prog.info? 35).map (fun i => (i.zero, i.size, i.bytes)) = some (some (.slice none 0 0), 1, 24) := by kernel_rfl

section
variable {ops : Array Oper} {rest : List Oper} {o : Oper} {a : Act} {Q : Exit → Act → World → Prop}

theorem slice_of_own {w : World} {base e n : Nat} {v : Value} {xs : List Value} (h : w.ownsRow base e 1 v n xs) : ∃ A c, v = .slice A n c := by
  rcases h.2 with ⟨rfl, rfl⟩ | ⟨g, cap, cur, rfl, _⟩
  · exact ⟨none, 0, rfl⟩
  · exact ⟨some ⟨g, 0, none⟩, cap, rfl⟩
theorem ownBlock_slice (A : Option Addr) (n c : Nat) : (Value.slice A n c).ownBlock = blk A := by cases A <;> rfl

theorem wpI_append {w : World} (hgd : o.guard = none) (s x : Operand) (ho : o.op = .call { callee := .builtin .append, args := #[s, x], argTypes := #[35, 35] })
    (lo : Nat) (A : Option Addr) (c n : Nat) (xs : List Int) (y : Int) (bx : Nat) (hs : a.eval s = .slice A n c) (hx : a.eval x = .slice (some ⟨bx, 0, none⟩) 1 1)
    (hn : xs.length = n) (hown : OwnI w lo A c xs) (hcell : w.cell? ⟨bx, 0, none⟩ = some (.int .i64 y)) (hlen : n + 1 ≤ 17592186044416) (hlo : lo ≤ w.heap.size)
    (h : ∀ A' c' w', OwnI w' lo A' c' (xs ++ [y]) → w.grownBy w' (blk A) → (blk A' = blk A ∨ blk A' = some w.heap.size) → wpList Tryz.prog ops Q rest (a.put o.dst (.slice A' (n + 1) c')) w') :
    wpList Tryz.prog ops Q (o :: rest) a w := by
  obtain ⟨i, hi, hz, hz1, hz2⟩ := info_parts infoI
  subst hn
  refine wpList_append_own_at w hgd s x 35 ho lo 2 i _ 1 8 Tryz.underlying35 hi hz hz1 hz2 rfl (by decide) _ _ _ hs hown ⟨bx, 0, none⟩ 1 1 [.int .i64 y] hx rfl ?_ ?_ ?_ ?_ hlo ?_
  · intro j u hj
    match j, hj with
    | 0, hj => simp at hj; subst hj; exact hcell
  · intro u hu; simp at hu; subst hu; rfl
  · unfold maxLen; omega
  · omega
  · intro v' w' h2 h3 _ h5
    obtain ⟨A', c', rfl⟩ := slice_of_own h2
    rw [ownBlock_slice] at h3 h5
    rw [ownBlock_slice] at h5
    refine h A' c' w' ?_ h3 h5
    unfold OwnI
    rw [List.length_append, List.map_append]
    exact h2

end

/-- Where the row's own block lies apart from the rows that are there, the longer slice is the call's own too. -/
def putS (R : Spine) (n : Nat) (A : Option Addr) (c : Nat) : Spine := fun k => if k = n then (A, c) else R k

theorem row_append_lt {xss : List (List Int)} {ys : List Int} {k : Nat} (h : k < xss.length) : row (xss ++ [ys]) k = row xss k := by
  simp [row, List.getElem?_append_left h]
theorem row_append_eq {xss : List (List Int)} {ys : List Int} : row (xss ++ [ys]) xss.length = ys := by simp [row]

/-- A world in which the rows stand as they stood. -/
theorem OwnM.longer {w w' : World} {lo : Nat} {A A' Ay : Option Addr} {c c' cy : Nat} {R : Spine} {xss : List (List Int)} {ys : List Int} (h : OwnM w lo A c R xss) (hr : OwnI w lo Ay cy ys)
    (hap : ∀ k, k < xss.length → ∀ g, (R k).1 = some ⟨g, 0, none⟩ → Ay ≠ some ⟨g, 0, none⟩)
    (hown : w'.ownsRow lo 35 1 (.slice A' (xss.length + 1) c') (xss.length + 1) (((List.range xss.length).map fun k => .slice (R k).1 (row xss k).length (R k).2) ++ [.slice Ay ys.length cy])) (hg : w.grownBy w' (blk A)) :
    OwnM w' lo A' c' (putS R xss.length Ay cy) (xss ++ [ys]) := by
  have hne : ∀ g cur, w.heap[g]? = some (.cells cur 2 (0, 0)) → blk A ≠ some g := by
    intro g cur hh e
    rcases h.own.2 with ⟨e1, _⟩ | ⟨g1, c1, cur1, e1, _, hh1, _⟩
    · injection e1 with e1 _ _; subst e1; simp [blk] at e
    · injection e1 with e1 _ _
      subst e1
      simp only [blk_some, Option.some.injEq] at e
      subst e
      rw [hh] at hh1
      simp at hh1
  have hk : ∀ {A0 : Option Addr} {c0 : Nat} {zs : List Int}, OwnI w lo A0 c0 zs → OwnI w' lo A0 c0 zs := by
    intro A0 c0 zs h0
    refine h0.grown hg fun g e => ?_
    rcases h0.2 with ⟨e1, _⟩ | ⟨g1, c1, cur1, e1, _, hh1, _⟩
    · rw [e] at e1; simp at e1
    · rw [e] at e1
      simp only [Value.slice.injEq, Option.some.injEq, Addr.mk.injEq, and_true] at e1
      obtain ⟨rfl, _⟩ := e1
      exact hne _ _ hh1
  refine ⟨?_, fun k hk' => ?_, fun i j hij hj g e => ?_⟩
  · have e : ((List.range (xss ++ [ys]).length).map fun k => Value.slice (putS R xss.length Ay cy k).1 (row (xss ++ [ys]) k).length (putS R xss.length Ay cy k).2) =
        ((List.range xss.length).map fun k => .slice (R k).1 (row xss k).length (R k).2) ++ [.slice Ay ys.length cy] := by
      rw [List.length_append, List.length_singleton, List.range_succ, List.map_append]
      congr 1
      · refine List.map_congr_left fun k hk' => ?_
        have := List.mem_range.1 hk'
        simp only [putS]
        rw [if_neg (by omega), row_append_lt this]
      · simp only [List.map_cons, List.map_nil, putS, if_true]
        rw [row_append_eq]
    rw [e, List.length_append, List.length_singleton]
    exact hown
  · rw [List.length_append, List.length_singleton] at hk'
    by_cases e : k = xss.length
    · subst e
      simp only [putS, if_true]
      rw [row_append_eq]
      exact hk hr
    · simp only [putS]
      rw [if_neg e, row_append_lt (by omega)]
      exact hk (h.rows k (by omega))
  · rw [List.length_append, List.length_singleton] at hj
    simp only [putS] at e ⊢
    rw [if_neg (by omega)] at e
    by_cases ej : j = xss.length
    · rw [if_pos ej]; exact hap i (by omega) g e
    · rw [if_neg ej]; exact h.apart i j hij (by omega) g e

section
variable {ops : Array Oper} {rest : List Oper} {o : Oper} {a : Act} {Q : Exit → Act → World → Prop}
theorem wpM_append {w : World} (hgd : o.guard = none) (s x : Operand) (ho : o.op = .call { callee := .builtin .append, args := #[s, x], argTypes := #[22, 22] })
    (lo : Nat) (A : Option Addr) (c n : Nat) (R : Spine) (xss : List (List Int)) (Ay : Option Addr) (ny cy : Nat) (ys : List Int) (bx : Nat) (hs : a.eval s = .slice A n c) (hx : a.eval x = .slice (some ⟨bx, 0, none⟩) 1 1)
    (hn : xss.length = n) (hny : ys.length = ny) (hown : OwnM w lo A c R xss) (hr : OwnI w lo Ay cy ys) (hap : ∀ k, k < xss.length → ∀ g, (R k).1 = some ⟨g, 0, none⟩ → Ay ≠ some ⟨g, 0, none⟩)
    (hcell : w.cell? ⟨bx, 0, none⟩ = some (.slice Ay ny cy)) (hlen : n + 1 ≤ 4398046511104) (hlo : lo ≤ w.heap.size)
    (h : ∀ A' c' R' w', OwnM w' lo A' c' R' (xss ++ [ys]) → w.grownBy w' (blk A) → (blk A' = blk A ∨ blk A' = some w.heap.size) → wpList Tryz.prog ops Q rest (a.put o.dst (.slice A' (n + 1) c')) w') :
    wpList Tryz.prog ops Q (o :: rest) a w := by
  obtain ⟨i, hi, hz, hz1, hz2⟩ := info_parts infoS
  subst hn
  subst hny
  refine wpList_append_own_at w hgd s x 22 ho lo 35 i _ 1 24 Tryz.underlying22 hi hz hz1 hz2 rfl (by decide) _ _ _ hs hown.own ⟨bx, 0, none⟩ 1 1 [.slice Ay ys.length cy] hx rfl ?_ ?_ ?_ ?_ hlo ?_
  · intro j u hj
    match j, hj with
    | 0, hj => simp at hj; subst hj; exact hcell
  · intro u hu; simp at hu; subst hu; rfl
  · unfold maxLen; omega
  · omega
  · intro v' w' h2 h3 _ h5
    obtain ⟨A', c', rfl⟩ := slice_of_own h2
    rw [ownBlock_slice] at h3 h5
    rw [ownBlock_slice] at h5
    exact h A' c' _ w' (hown.longer hr hap h2 h3) h3 h5
end

/-- A store of a row at place i. -/
theorem OwnM.set_row {w : World} {lo : Nat} {g c : Nat} {R : Spine} {xss : List (List Int)} (h : OwnM w lo (some ⟨g, 0, none⟩) c R xss) {i : Nat} (hi : i < xss.length) {Ay : Option Addr} {cy : Nat} {ys : List Int} (hr : OwnI w lo Ay cy ys)
    (hap : ∀ k, k < xss.length → k ≠ i → ∀ g, (R k).1 = some ⟨g, 0, none⟩ → Ay ≠ some ⟨g, 0, none⟩) :
    OwnM (w.setCell ⟨g, i, none⟩ (.slice Ay ys.length cy)) lo (some ⟨g, 0, none⟩) c (putS R i Ay cy) (xss.set i ys) := by
  have hrow : ∀ k, k < xss.length → row (xss.set i ys) k = if k = i then ys else row xss k := by
    intro k hk
    by_cases e : k = i
    · subst e; simp [row, hk]
    · rw [if_neg e]; simp [row, List.getElem?_set_ne (fun e' => e e'.symm)]
  obtain ⟨hs1, hs2⟩ := World.ownsRow.stored h.own i (.slice Ay ys.length cy)
  have hne : ∀ {A0 : Option Addr} {c0 : Nat} {zs : List Int}, OwnI w lo A0 c0 zs → OwnI (w.setCell ⟨g, i, none⟩ (.slice Ay ys.length cy)) lo A0 c0 zs := by
    intro A0 c0 zs h0
    refine h0.grown hs2 fun g' e => ?_
    rcases h0.2 with ⟨e1, _⟩ | ⟨g1, c1, cur1, e1, _, hh1, _⟩
    · rw [e] at e1; simp at e1
    rcases h.own.2 with ⟨e2, _⟩ | ⟨g2, c2, cur2, e2, _, hh2, _⟩
    · simp at e2
    rw [e] at e1
    simp only [Value.slice.injEq, Option.some.injEq, Addr.mk.injEq, and_true] at e1 e2
    obtain ⟨rfl, _⟩ := e1
    obtain ⟨rfl, _⟩ := e2
    rintro ⟨⟩
    rw [hh1] at hh2
    simp at hh2
  refine ⟨?_, fun k hk => ?_, fun a b hab hb g' e => ?_⟩
  · rw [List.length_set]
    have e : ((List.range xss.length).map fun k => Value.slice (putS R i Ay cy k).1 (row (xss.set i ys) k).length (putS R i Ay cy k).2) =
        ((List.range xss.length).map fun k => Value.slice (R k).1 (row xss k).length (R k).2).set i (.slice Ay ys.length cy) := by
      apply List.ext_getElem
      · simp
      · intro k h1 h2
        simp only [List.length_map, List.length_range] at h1
        rw [List.getElem_set]
        simp only [List.getElem_map, List.getElem_range, putS]
        rw [hrow k h1]
        by_cases e : k = i
        · subst e; simp
        · rw [if_neg e, if_neg e, if_neg (fun e' => e e'.symm)]
    rw [e]
    exact hs1
  · rw [List.length_set] at hk
    rw [hrow k hk]
    simp only [putS]
    by_cases e : k = i
    · rw [if_pos e, if_pos e]; exact hne hr
    · rw [if_neg e, if_neg e]; exact hne (h.rows k hk)
  · rw [List.length_set] at hb
    simp only [putS] at e ⊢
    by_cases ea : a = i
    · rw [if_pos ea] at e
      rw [if_neg (by omega)]
      intro e'
      exact hap b hb (by omega) g' e' e
    · rw [if_neg ea] at e
      by_cases eb : b = i
      · rw [if_pos eb]; exact hap a (by omega) ea g' e
      · rw [if_neg eb]; exact h.apart a b hab hb g' e

/-- make([]int64, n). -/
theorem OwnI.made (w : World) (n : Nat) (hn : n ≤ maxLen) {lo : Nat} (hlo : lo ≤ w.heap.size) : OwnI (w.alloc (.cells (madeCells #[.int .i64 0] n) 2)) lo (some ⟨w.heap.size, 0, none⟩) n (List.replicate n 0) := by
  have := World.ownsRow_lit (e := 2) (size := 1) w (madeCells #[.int .i64 0] n) n hlo hn (by rw [size_madeCells]; omega)
  rw [toList_madeCells_one] at this
  unfold OwnI
  simpa using this
theorem OwnM.made (w : World) (n : Nat) (hn : n ≤ maxLen) {lo : Nat} (hlo : lo ≤ w.heap.size) :
    OwnM (w.alloc (.cells (madeCells #[.slice none 0 0] n) 35)) lo (some ⟨w.heap.size, 0, none⟩) n (fun _ => (none, 0)) (List.replicate n []) := by
  have hr : ∀ k, row (List.replicate n ([] : List Int)) k = [] := by
    intro k; simp only [row, List.getElem?_replicate]; split <;> rfl
  have := World.ownsRow_lit (e := 35) (size := 1) w (madeCells #[.slice none 0 0] n) n hlo hn (by rw [size_madeCells]; omega)
  rw [toList_madeCells_one] at this
  refine ⟨?_, fun k _ => by rw [hr]; exact OwnI.nil_ _ _, fun _ _ _ _ _ e => by simp at e⟩
  have e : ((List.range (List.replicate n ([] : List Int)).length).map fun k => Value.slice none (row (List.replicate n ([] : List Int)) k).length 0) = List.replicate n (.slice none 0 0) := by
    rw [List.length_replicate]
    apply List.ext_getElem
    · simp
    · intro k h1 h2; simp [hr]
  show World.ownsRow _ _ _ _ _ _ (List.map (fun k => Value.slice none (row (List.replicate n ([] : List Int)) k).length 0) _)
  rw [e, List.length_replicate]
  exact this
end Go.Proofs.YtmmkmkbpgcbehaaGreat

/-
  The laws' helpers over slices of int64: what eqInt64S, markInt64S, heldInt64S, szInt64S, toInt64S and their kin over slices of slices return and write. Conditions: those of each theorem.
-/
namespace Go.Proofs.YtmmkmkbpgcbehaaGreat
open Go.RowKit
set_option linter.unusedVariables false
set_option linter.unusedSimpArgs false

/-- The call returned v; beyond draws it did nothing. -/
def EndQ (v : Value) (w : World) (e : Ending) (w' : World) : Prop := e = .returned v ∧ ∃ m, w' = w.drewN m
/-- The world is as it was but for draws. -/
def Qt (w w' : World) : Prop := ∃ m, w' = w.drewN m
theorem Qt.refl (w : World) : Qt w w := ⟨0, rfl⟩
theorem Qt.trans {a b c : World} (h : Qt a b) (k : Qt b c) : Qt a c := by
  obtain ⟨m, rfl⟩ := h
  obtain ⟨n, rfl⟩ := k
  exact ⟨m + n, by rw [World.drewN_drewN]⟩

theorem qt2 (w : World) (m n : Nat) : Qt w ((w.drewN m).drewN n) := ⟨m + n, by rw [World.drewN_drewN]⟩

/-- Cells k < n of the slice at A hold 'f k'. -/
def At (w : World) (A : Option Addr) (n : Nat) (f : Nat → Int) : Prop :=
  ∀ k, k < n → ∃ b off, A = some ⟨b, off, none⟩ ∧ b < w.heap.size ∧ w.cell? ⟨b, off + k, none⟩ = some (.int .i64 (f k))

set_option maxHeartbeats 400000 in
theorem eqS_core (w : World) (A A' : Option Addr) (n c c' : Nat) (f g : Nat → Int) (hn : n ≤ 140737488355328) (hA : At w A n f) (hA' : At w A' n g) :
    Calls Tryz.prog 17 #[.slice A n c, .slice A' n c'] w (EndQ (.bool (decide (∀ k, k < n → f k = g k))) w) := by
  have HA := Lib.hid hA
  have HA' := Lib.hid hA'
  clear hA hA'
  go_enter Tryz.func17, Tryz.ntmps17
  go_wp2
  go_loopw [5] (fun i wr => ∃ k : Nat, k ≤ n ∧ i = .int .i64 k ∧ Qt w wr ∧ Hid (∀ j, j < k → f j = g j)) (fun i _ => n - (intOf i).toNat)
  case atStart => exact ⟨0, Nat.zero_le _, rfl, Qt.refl w, fun j hj => absurd hj (by omega)⟩
  case round =>
    obtain ⟨k, hk, rfl, ⟨m, rfl⟩, heq⟩ := hrel
    by_cases hlt : k < n
    · obtain ⟨b, off, rfl, hb, hc⟩ := HA.out k hlt
      obtain ⟨b', off', rfl, hb', hc'⟩ := HA'.out k hlt
      by_cases hfg : f k = g k
      · have hne : (f k != g k) = false := by simp [hfg]
        have Hfg := Lib.hid hfg
        clear hfg
        go_wp2
        go_quiet (fail)
        go_wp2
        go_roundw
        case rel =>
          refine ⟨k + 1, by omega, by go_num, ⟨_, rfl⟩, fun j hj => ?_⟩
          rcases Nat.lt_or_ge j k with h | h
          · exact heq j h
          · obtain rfl : j = k := by omega
            exact Hfg.out
        case measure => simp [intOf]; omega
      · have hne : (f k != g k) = true := by simp [hfg]
        have Hfg := Lib.hid hfg
        clear hfg
        go_wp2
        go_quiet (fail)
        go_wp2
        go_ret
        refine ⟨?_, qt2 _ _ _⟩
        rw [decide_eq_false fun h => Hfg.out (h k hlt)]; rfl
    · obtain rfl : k = n := by omega
      have hd : decide (∀ j, j < k → f j = g j) = true := decide_eq_true heq
      go_wp2
      go_ret
      exact ⟨by rw [hd]; rfl, ⟨m, rfl⟩⟩

theorem Qt.size {w w' : World} (h : Qt w w') : w'.heap.size = w.heap.size := by obtain ⟨m, rfl⟩ := h; rfl
theorem Qt.below {w w' : World} (h : Qt w w') (B : Nat) : Below B w w' := by obtain ⟨m, rfl⟩ := h; exact below_drewN (Below.refl _ _) m
theorem ret_b {b b' : Bool} (h : b = b') : Ending.returned (.bool b) = .returned (.bool b') := by rw [h]
theorem ret_i {k : IntKind} {a b : Int} (h : a = b) : Ending.returned (.int k a) = .returned (.int k b) := by rw [h]

theorem RdI.at' {w : World} {A : Option Addr} {c : Nat} {xs : List Int} (h : RdI w A c xs) : At w A xs.length (nth xs) := h.at_
theorem same_nth {xs ys : List Int} (hl : xs.length = ys.length) : (∀ k, k < xs.length → nth xs k = nth ys k) ↔ xs = ys := by
  constructor
  · intro h
    apply List.ext_getElem hl
    intro k h1 h2
    have := h k h1
    rwa [nth_eq h1, nth_eq h2] at this
  · rintro rfl _ _; rfl
theorem same_row {xs ys : List (List Int)} (hl : xs.length = ys.length) : (∀ k, k < xs.length → row xs k = row ys k) ↔ xs = ys := by
  constructor
  · intro h
    apply List.ext_getElem hl
    intro k h1 h2
    have := h k h1
    rwa [row_eq h1, row_eq h2] at this
  · rintro rfl _ _; rfl

set_option maxHeartbeats 400000 in
theorem eqS_len (w : World) (A A' : Option Addr) (n n' c c' : Nat) (hn : ((n : Int) != n') = true) :
    Calls Tryz.prog 17 #[.slice A n c, .slice A' n' c'] w (EndQ (.bool false) w) := by
  have hn' : (n != n') = true := by simp at hn ⊢; omega
  go_enter Tryz.func17, Tryz.ntmps17
  go_wp2
  go_ret
  exact ⟨rfl, 0, rfl⟩

/-- eqInt64S: whether both lists are one. -/
theorem eqS (w : World) {A A' : Option Addr} {n n' c c' : Nat} {xs ys : List Int} (hx : RdI w A c xs) (hy : RdI w A' c' ys) (hn : xs.length = n) (hn' : ys.length = n') (hb : xs.length ≤ 140737488355328) :
    Calls Tryz.prog 17 #[.slice A n c, .slice A' n' c'] w (EndQ (.bool (decide (xs = ys))) w) := by
  subst hn hn'
  by_cases hl : xs.length = ys.length
  · have h := eqS_core w A A' xs.length c c' (nth xs) (nth ys) hb hx.at' (hl ▸ hy.at')
    rw [hl] at h ⊢
    rw [show decide (∀ k, k < ys.length → nth xs k = nth ys k) = decide (xs = ys) from by rw [← hl]; exact decide_eq_decide.2 (same_nth hl)] at h
    exact h
  · rw [decide_eq_false (fun e => hl (by rw [e]))]
    exact eqS_len w A A' _ _ c c' (by simp; omega)

/-- Rows k < n of the slice at A. -/
def AtM (w : World) (A : Option Addr) (n : Nat) (V : Nat → Option Addr × Nat × Nat) : Prop :=
  ∀ k, k < n → ∃ b off, A = some ⟨b, off, none⟩ ∧ b < w.heap.size ∧ w.cell? ⟨b, off + k, none⟩ = some (.slice (V k).1 (V k).2.1 (V k).2.2)

set_option maxHeartbeats 400000 in
theorem eqSS_len (w : World) (A A' : Option Addr) (n n' c c' : Nat) (hn : ((n : Int) != n') = true) :
    Calls Tryz.prog 9 #[.slice A n c, .slice A' n' c'] w (EndQ (.bool false) w) := by
  have hn' : (n != n') = true := by simp at hn ⊢; omega
  go_enter Tryz.func9, Tryz.ntmps9
  go_wp2
  go_ret
  exact ⟨rfl, 0, rfl⟩

theorem quiet_end {f : FuncId} {args : Array Value} {w : World} {v : Value} (h : Calls Tryz.prog f args w (EndQ v w)) :
    Calls Tryz.prog f args w fun e w' => e = .returned v ∧ ∃ m, w' = w.drewN m := h
theorem quiet_endN {f : FuncId} {args : Array Value} {w : World} {a n : Nat} {v : Value} (h : Calls Tryz.prog f args (w.drewN (a + n)) (EndQ v (w.drewN (a + n)))) :
    Calls Tryz.prog f args (w.drewN (a + n)) fun e w' => e = .returned v ∧ ∃ m, w' = w.drewN (a + m) :=
  h.mono fun _ _ ⟨he, m, hm⟩ => ⟨he, n + m, by rw [hm, World.drewN_drewN, Nat.add_assoc]⟩

theorem quiet_end0 {f : FuncId} {args : Array Value} {w : World} {n : Nat} {v : Value} (h : Calls Tryz.prog f args (w.drewN n) (EndQ v (w.drewN n))) :
    Calls Tryz.prog f args (w.drewN n) fun e w' => e = .returned v ∧ ∃ m, w' = w.drewN m :=
  h.mono fun _ _ ⟨he, m, hm⟩ => ⟨he, n + m, by rw [hm, World.drewN_drewN]⟩

set_option maxHeartbeats 400000 in
theorem eqSS_core (w : World) (A A' : Option Addr) (n c c' : Nat) (R R' : Spine) (xss yss : List (List Int)) (hn : n ≤ 140737488355328) (hx : RdM w A c R xss) (hy : RdM w A' c' R' yss) (hxl : Hid (xss.length = n)) (hyl : Hid (yss.length = n))
    (hb : ∀ k, k < n → (row xss k).length ≤ 140737488355328) :
    Calls Tryz.prog 9 #[.slice A n c, .slice A' n c'] w (EndQ (.bool (decide (∀ k, k < n → row xss k = row yss k))) w) := by
  have HX := Lib.hid hx
  have HY := Lib.hid hy
  have HB := Lib.hid hb
  clear hx hy hb
  go_enter Tryz.func9, Tryz.ntmps9
  go_wp2
  go_loopw [5] (fun i wr => ∃ k : Nat, k ≤ n ∧ i = .int .i64 k ∧ Qt w wr ∧ Hid (∀ j, j < k → row xss j = row yss j)) (fun i _ => n - (intOf i).toNat)
  case atStart => exact ⟨0, Nat.zero_le _, rfl, Qt.refl w, fun j hj => absurd hj (by omega)⟩
  case round =>
    obtain ⟨k, hk, rfl, ⟨m, rfl⟩, heq⟩ := hrel
    by_cases hlt : k < n
    · obtain ⟨b, off, rfl, hb, hc⟩ := HX.out.at_ k (by rw [hxl.out]; exact hlt)
      obtain ⟨b', off', rfl, hb', hc'⟩ := HY.out.at_ k (by rw [hyl.out]; exact hlt)
      have hcall := fun q => eqS (w.drewN q) ((HX.out.rows k (by rw [hxl.out]; exact hlt)).drewN q) ((HY.out.rows k (by rw [hyl.out]; exact hlt)).drewN q) rfl rfl (HB.out k hlt)
      by_cases hfg : row xss k = row yss k
      · have hd : decide (row xss k = row yss k) = true := decide_eq_true hfg
        have Hfg := Lib.hid hfg
        rw [hd] at hcall
        clear hfg hd
        have HC := Lib.hid hcall
        clear hcall
        go_wp2
        go_quiet ((go_at_call 17; exact quiet_endN (HC.out _)))
        go_wp2
        go_roundw
        case rel =>
          refine ⟨k + 1, by omega, by go_num, ⟨_, rfl⟩, fun j hj => ?_⟩
          rcases Nat.lt_or_ge j k with h | h
          · exact heq j h
          · obtain rfl : j = k := by omega
            exact Hfg.out
        case measure => simp [intOf]; omega
      · have hd : decide (row xss k = row yss k) = false := decide_eq_false hfg
        have Hfg := Lib.hid hfg
        rw [hd] at hcall
        clear hfg hd
        have HC := Lib.hid hcall
        clear hcall
        go_wp2
        go_quiet ((go_at_call 17; exact quiet_endN (HC.out _)))
        go_wp2
        go_ret
        refine ⟨?_, qt2 _ _ _⟩
        rw [decide_eq_false fun h => Hfg.out (h k hlt)]; rfl
    · obtain rfl : k = n := by omega
      have hd : decide (∀ j, j < k → row xss j = row yss j) = true := decide_eq_true heq
      go_wp2
      go_ret
      exact ⟨by rw [hd]; rfl, ⟨m, rfl⟩⟩

/-- eqInt64SS: whether both lists of lists are one. -/
theorem eqSS (w : World) {A A' : Option Addr} {n n' c c' : Nat} {R R' : Spine} {xss yss : List (List Int)} (hx : RdM w A c R xss) (hy : RdM w A' c' R' yss) (hn : xss.length = n) (hn' : yss.length = n') (hb : xss.length ≤ 140737488355328)
    (hb' : ∀ k, k < xss.length → (row xss k).length ≤ 140737488355328) :
    Calls Tryz.prog 9 #[.slice A n c, .slice A' n' c'] w (EndQ (.bool (decide (xss = yss))) w) := by
  subst hn hn'
  by_cases hl : xss.length = yss.length
  · have h := eqSS_core w A A' xss.length c c' R R' xss yss hb hx hy rfl hl.symm hb'
    rw [show decide (∀ k, k < xss.length → row xss k = row yss k) = decide (xss = yss) from decide_eq_decide.2 (same_row hl)] at h
    rw [← hl]
    exact h
  · rw [decide_eq_false (fun e => hl (by rw [e]))]
    exact eqSS_len w A A' _ _ c c' (by simp; omega)
end Go.Proofs.YtmmkmkbpgcbehaaGreat

/-
  The laws' helpers that write or count: markInt64S, heldInt64S, szInt64S, toInt64S and their kin over slices of slices. Conditions: those of each theorem.
-/
namespace Go.Proofs.YtmmkmkbpgcbehaaGreat
open Go.RowKit
set_option linter.unusedVariables false
set_option linter.unusedSimpArgs false

set_option maxHeartbeats 400000 in
/-- markInt64S writes k0, k0 + 1, .. into the slice. -/
theorem markS (w : World) (lo : Nat) (A : Option Addr) (c : Nat) (xs : List Int) (n : Nat) (k0 : Int) (hown : OwnI w lo A c xs) (hn : xs.length = n) (h0 : 0 ≤ k0) (hb : k0 + (n : Int) ≤ 4611686018427387904) :
    Calls Tryz.prog 18 #[.slice A n c, .int .i64 k0] w fun e w' => e = .returned (.int .i64 (k0 + n)) ∧ OwnI w' lo A c (upFrom k0 n) ∧ w.grownBy w' (blk A) := by
  have HN := Lib.hid hn
  clear hn
  have hc0 : c ≤ maxLen := by have := hown.rd.cap; exact this
  have hnc : n ≤ c := by have := hown.rd.le; rw [HN.out] at this; exact this
  unfold maxLen at hc0
  go_enter Tryz.func18, Tryz.ntmps18
  go_wp2
  go_loopw [1, 5] (fun q i wr => ∃ k : Nat, k ≤ n ∧ i = .int .i64 k ∧ q = .int .i64 (k0 + k) ∧ OwnI wr lo A c (mkd k0 k xs) ∧ w.grownBy wr (blk A)) (fun _ i _ => n - (intOf i).toNat)
  case atStart => exact ⟨0, Nat.zero_le _, rfl, by simp, by rw [mkd_zero]; exact hown, (⟨rfl, rfl, rfl, Nat.le_refl _, fun _ _ _ => rfl⟩ : w.grownBy w (blk A))⟩
  case round =>
    obtain ⟨k, hk, rfl, rfl, ho, hg⟩ := hrel
    by_cases hlt : k < n
    · obtain ⟨g, rfl, hlo, hgs, hc, hf⟩ := ho.at_ (k := k) (by rw [length_mkd (by rw [HN.out]; exact hk), HN.out]; exact hlt)
      have hs := ho.stored k (k0 + k)
      rw [mkd_set (by rw [HN.out]; exact hlt)] at hs
      have hg2 := grownBy_trans hg (grownBy_setCell wr ⟨g, k, none⟩ (.int .i64 (k0 + k)))
      have HO := Lib.hid hs
      have HG := Lib.hid hg2
      clear ho hs hg hg2
      go_wp2
      go_roundw
      case rel => exact ⟨k + 1, by omega, by go_num, by go_num, HO.out, HG.out⟩
      case measure => simp [intOf]; omega
    · obtain rfl : k = n := by omega
      have ho' : OwnI wr lo A c (upFrom k0 k) := by
        have e := mkd_all k0 xs
        rw [HN.out] at e
        rw [← e]; exact ho
      have HO := Lib.hid ho'
      have HG := Lib.hid hg
      clear ho ho' hg hown
      go_wp2
      go_ret
      exact ⟨rfl, HO.out, HG.out⟩

set_option maxHeartbeats 400000 in
/-- heldInt64S counts on where the slice holds k0, k0 + 1, .. -/
theorem heldS (w : World) (A : Option Addr) (n c : Nat) (k0 : Int) (hA : At w A n (fun k => k0 + (k : Int))) (h0 : 0 ≤ k0) (hb : k0 + (n : Int) ≤ 4611686018427387904) :
    Calls Tryz.prog 26 #[.slice A n c, .int .i64 k0] w fun e w' => e = .returned (.int .i64 (k0 + n)) ∧ w = w' := by
  have HA := Lib.hid hA
  clear hA
  have hn0 : n ≤ 4611686018427387904 := by omega
  go_enter Tryz.func26, Tryz.ntmps26
  go_wp2
  go_loop [1, 5] (fun q i => ∃ k : Nat, k ≤ n ∧ i = .int .i64 k ∧ q = .int .i64 (k0 + k)) (fun _ i => n - (intOf i).toNat)
  case atStart => exact ⟨0, Nat.zero_le _, rfl, by simp⟩
  case round =>
    obtain ⟨k, hk, rfl, rfl⟩ := hrel
    by_cases hlt : k < n
    · obtain ⟨b, off, rfl, hb', hc⟩ := HA.out k hlt
      have hne : (k0 + (k : Int) != k0 + (k : Int)) = false := by simp
      go_wp2
      go_round
      case rel => exact ⟨k + 1, by omega, by go_num, by go_num⟩
      case measure => simp [intOf]; omega
    · obtain rfl : k = n := by omega
      go_wp2
      go_ret
      exact ⟨rfl, rfl⟩

/-- The rows hold k0, k0 + 1, .. through all of them; their lengths are those of xss. -/
def Marked (k0 : Int) (i : Nat) (xss yss : List (List Int)) : Prop :=
  yss.length = xss.length ∧ (∀ j, j < xss.length → (row yss j).length = (row xss j).length) ∧ ∀ j, j < i → row yss j = upFrom (k0 + (tot (xss.take j) : Nat)) (row xss j).length

/-- Of what was there only the rows' blocks may have turned. -/
structure Rowed (R : Spine) (n : Nat) (w w' : World) : Prop where
  os : w'.os = w.os
  tape : w'.tape = w.tape
  output : w'.output = w.output
  size : w.heap.size ≤ w'.heap.size
  block : ∀ k, k < w.heap.size → (∀ j, j < n → blk (R j).1 ≠ some k) → w'.heap[k]? = w.heap[k]?
theorem Rowed.refl (R : Spine) (n : Nat) (w : World) : Rowed R n w w := ⟨rfl, rfl, rfl, Nat.le_refl _, fun _ _ _ => rfl⟩
theorem Rowed.grown {R : Spine} {n k : Nat} {w w1 w2 : World} (h : Rowed R n w w1) (hg : w1.grownBy w2 (blk (R k).1)) (hk : k < n) : Rowed R n w w2 :=
  ⟨hg.os.trans h.os, hg.tape.trans h.tape, hg.output.trans h.output, Nat.le_trans h.size hg.size, fun i hi hn => (hg.block i (Nat.lt_of_lt_of_le hi h.size) (fun e => hn k hk e.symm)).trans (h.block i hi hn)⟩

set_option maxHeartbeats 800000 in
theorem markSS (w : World) (lo : Nat) (A : Option Addr) (c : Nat) (R : Spine) (xss : List (List Int)) (n : Nat) (k0 : Int) (hown : OwnM w lo A c R xss) (hn : xss.length = n) (h0 : 0 ≤ k0) (hb : k0 + (tot xss : Nat) ≤ 4611686018427387904) :
    Calls Tryz.prog 12 #[.slice A n c, .int .i64 k0] w fun e w' => e = .returned (.int .i64 (k0 + (tot xss : Nat))) ∧ (∃ yss, OwnM w' lo A c R yss ∧ Marked k0 n xss yss) ∧ Rowed R n w w' := by
  have HN := Lib.hid hn
  clear hn
  have hc0 : c ≤ maxLen := hown.rd.cap
  have hnc : n ≤ c := by have := hown.rd.le; rw [HN.out] at this; exact this
  unfold maxLen at hc0
  go_enter Tryz.func12, Tryz.ntmps12
  go_wp2
  go_loopw [1, 5] (fun q i wr => ∃ (k : Nat) (t : Int), k ≤ n ∧ i = .int .i64 k ∧ q = .int .i64 t ∧ Hid (t = k0 + (tot (xss.take k) : Nat)) ∧ (∃ yss, OwnM wr lo A c R yss ∧ Marked k0 k xss yss) ∧ Rowed R n w wr) (fun _ i _ => n - (intOf i).toNat)
  case atStart => exact ⟨0, k0, Nat.zero_le _, rfl, rfl, by simp [Hid, tot], ⟨xss, hown, rfl, fun _ _ => rfl, fun j hj => absurd hj (by omega)⟩, Rowed.refl _ _ _⟩
  case round =>
    obtain ⟨k, t, hk, rfl, rfl, ht, ⟨yss, ho, hM⟩, hB⟩ := hrel
    by_cases hlt : k < n
    · have hkx : k < xss.length := by rw [HN.out]; exact hlt
      have hky : k < yss.length := by rw [hM.1]; exact hkx
      obtain ⟨g, rfl, hlg, hgs, hc, hf⟩ := ho.at_ hky
      have hrl := hM.2.1 k hkx
      have hrt := row_le_tot hkx
      have ht0 : 0 ≤ t := by rw [ht.out]; omega
      have ht1 : t + ((row xss k).length : Int) ≤ 4611686018427387904 := by rw [ht.out]; omega
      have hcall := markS wr lo (R k).1 (R k).2 (row yss k) (row xss k).length t (ho.rows k hky) hrl ht0 ht1
      rw [hrl] at hc
      have HC := Lib.hid hcall
      have HR := Lib.hid hrl
      have HO := Lib.hid ho
      have HM := Lib.hid hM
      clear hcall hrl ho hM
      go_wp2_with (go_at_call 18; refine (HC.out).mono ?_; rintro e w1 ⟨rfl, ho1, hg1⟩)
      have ho2 : OwnM w1 lo (some ⟨g, 0, none⟩) c R (yss.set k (upFrom t (row xss k).length)) := HO.out.row_turned hky (by rw [length_upFrom, HR.out]) ho1 hg1
      have hB1 : Rowed R n w w1 := hB.grown hg1 hlt
      go_roundw
      case rel =>
        refine ⟨k + 1, t + ((row xss k).length : Int), by omega, by go_num, rfl, ?_, ⟨_, ho2, ?_⟩, hB1⟩
        · show _ = _
          rw [ht.out, tot_take_succ hkx]; omega
        · refine ⟨by rw [List.length_set]; exact HM.out.1, fun j hj => ?_, fun j hj => ?_⟩
          · by_cases e : j = k
            · subst e; simp [row, hky, length_upFrom]
            · rw [show row (yss.set k (upFrom t (row xss k).length)) j = row yss j from by simp [row, List.getElem?_set_ne (fun e' => e e'.symm)]]
              exact HM.out.2.1 j hj
          · by_cases e : j = k
            · subst e
              rw [show row (yss.set j (upFrom t (row xss j).length)) j = upFrom t (row xss j).length from by simp [row, hky], ht.out]
            · rw [show row (yss.set k (upFrom t (row xss k).length)) j = row yss j from by simp [row, List.getElem?_set_ne (fun e' => e e'.symm)]]
              exact HM.out.2.2 j (by omega)
      case measure => simp [intOf]; omega
    · obtain rfl : k = n := by omega
      have e : t = k0 + (tot xss : Nat) := by rw [ht.out, List.take_of_length_le (by rw [HN.out]; exact Nat.le_refl _)]
      have HE := Lib.hid e
      have HO := Lib.hid ho
      have HM := Lib.hid hM
      clear e ho hM hown
      go_wp2
      go_ret
      exact ⟨ret_i HE.out, ⟨yss, HO.out, HM.out⟩, hB⟩

set_option maxHeartbeats 800000 in
theorem heldSS (w : World) (A : Option Addr) (c : Nat) (R : Spine) (xss yss : List (List Int)) (n : Nat) (k0 : Int) (hrd : RdM w A c R yss) (hM : Marked k0 n xss yss) (hn : xss.length = n) (h0 : 0 ≤ k0) (hb : k0 + (tot xss : Nat) ≤ 4611686018427387904) :
    Calls Tryz.prog 13 #[.slice A n c, .int .i64 k0] w fun e w' => e = .returned (.int .i64 (k0 + (tot xss : Nat))) ∧ w = w' := by
  have HN := Lib.hid hn
  clear hn
  have hc0 : c ≤ maxLen := hrd.cap
  have hnc : n ≤ c := by have := hrd.le; rw [hM.1, HN.out] at this; exact this
  unfold maxLen at hc0
  have HR := Lib.hid hrd
  have HM := Lib.hid hM
  clear hrd hM
  go_enter Tryz.func13, Tryz.ntmps13
  go_wp2
  go_loop [1, 5] (fun q i => ∃ (k : Nat) (t : Int), k ≤ n ∧ i = .int .i64 k ∧ q = .int .i64 t ∧ Hid (t = k0 + (tot (xss.take k) : Nat))) (fun _ i => n - (intOf i).toNat)
  case atStart => exact ⟨0, k0, Nat.zero_le _, rfl, rfl, by simp [Hid, tot]⟩
  case round =>
    obtain ⟨k, t, hk, rfl, rfl, ht⟩ := hrel
    by_cases hlt : k < n
    · have hkx : k < xss.length := by rw [HN.out]; exact hlt
      have hky : k < yss.length := by rw [HM.out.1]; exact hkx
      obtain ⟨b, off, rfl, hbs, hc⟩ := HR.out.at_ k hky
      have hrl := HM.out.2.1 k hkx
      have hrt := row_le_tot hkx
      have ht0 : 0 ≤ t := by rw [ht.out]; omega
      have ht1 : t + ((row xss k).length : Int) ≤ 4611686018427387904 := by rw [ht.out]; omega
      have hat : At w (R k).1 (row xss k).length (fun j => t + (j : Int)) := by
        intro j hj
        obtain ⟨b', off', e1, e2, e3⟩ := (HR.out.rows k hky).at_ j (by rw [hrl]; exact hj)
        rw [HM.out.2.2 k hlt, nth_upFrom hj, ← ht.out] at e3
        exact ⟨b', off', e1, e2, e3⟩
      have hcall := heldS w (R k).1 (row xss k).length (R k).2 t hat ht0 ht1
      rw [hrl] at hc
      have ht2 : 0 ≤ t + ((row xss k).length : Int) := by omega
      have HC := Lib.hid hcall
      clear hcall hrl hat
      go_wp2_with (go_at_call 26; refine (HC.out).mono ?_; rintro e w1 ⟨rfl, rfl⟩)
      go_round
      case rel =>
        refine ⟨k + 1, t + ((row xss k).length : Int), by omega, by go_num, rfl, ?_⟩
        show _ = _
        rw [ht.out, tot_take_succ hkx]; omega
      case measure => simp [intOf]; omega
    · obtain rfl : k = n := by omega
      have e : t = k0 + (tot xss : Nat) := by rw [ht.out, List.take_of_length_le (by rw [HN.out]; exact Nat.le_refl _)]
      have HE := Lib.hid e
      clear e
      go_wp2
      go_ret
      exact ⟨ret_i HE.out, rfl⟩
end Go.Proofs.YtmmkmkbpgcbehaaGreat

/-
  The laws' helpers that bound and copy: szInt64S, szInt64SS, toInt64S, toInt64SS. Conditions: those of each theorem.
-/
namespace Go.Proofs.YtmmkmkbpgcbehaaGreat
open Go.RowKit
set_option linter.unusedVariables false
set_option linter.unusedSimpArgs false

set_option maxHeartbeats 400000 in
theorem szS_in (w : World) (A : Option Addr) (n c : Nat) (left : Int) (h0 : (n : Int) ≤ left) (h1 : left ≤ 1048576) :
    Calls Tryz.prog 41 #[.slice A n c, .int .i64 left] w fun e w' => e = .returned (.int .i64 (left - n)) ∧ w = w' := by
  go_enter Tryz.func41, Tryz.ntmps41
  go_wp2
  go_ret
  exact ⟨rfl, rfl⟩
set_option maxHeartbeats 400000 in
theorem szS_out (w : World) (A : Option Addr) (n c : Nat) (left : Int) (h0 : left < (n : Int)) (h1 : 0 ≤ left) (hn : n ≤ 9223372036854775807) :
    Calls Tryz.prog 41 #[.slice A n c, .int .i64 left] w fun e w' => e = .returned (.int .i64 (-1)) ∧ w = w' := by
  go_enter Tryz.func41, Tryz.ntmps41
  go_wp2
  go_ret
  exact ⟨rfl, rfl⟩

/-- Rows k < n: their lengths. -/
def AtL (w : World) (A : Option Addr) (n : Nat) (L : Nat → Nat) : Prop :=
  ∀ k, k < n → ∃ b off B C, A = some ⟨b, off, none⟩ ∧ w.cell? ⟨b, off + k, none⟩ = some (.slice B (L k) C) ∧ L k ≤ 9223372036854775807

theorem RdM.atL {w : World} {A : Option Addr} {c : Nat} {R : Spine} {xss : List (List Int)} (h : RdM w A c R xss) : AtL w A xss.length (fun k => (row xss k).length) := fun k hk => by
  obtain ⟨b, off, e, _, hc⟩ := h.at_ k hk
  exact ⟨b, off, _, _, e, hc, by show (row xss k).length ≤ _; have h1 := (h.rows k hk).le; have h2 := (h.rows k hk).cap; unfold maxLen at h2; omega⟩

set_option maxHeartbeats 400000 in
theorem szSS_in (w : World) (A : Option Addr) (n c : Nat) (xss : List (List Int)) (left : Int) (hA : AtL w A n (fun k => (row xss k).length)) (hn : xss.length = n) (h0 : (n : Int) + (tot xss : Nat) ≤ left) (h1 : left ≤ 1048576) :
    Calls Tryz.prog 20 #[.slice A n c, .int .i64 left] w fun e w' => e = .returned (.int .i64 (left - n - (tot xss : Nat))) ∧ w = w' := by
  have HA := Lib.hid hA
  have HN := Lib.hid hn
  clear hA hn
  go_enter Tryz.func20, Tryz.ntmps20
  go_wp2
  go_loop [1, 5] (fun q i => ∃ (k : Nat) (t : Int), k ≤ n ∧ i = .int .i64 k ∧ q = .int .i64 t ∧ Hid (t = left - n - (tot (xss.take k) : Nat))) (fun _ i => n - (intOf i).toNat)
  case atStart => exact ⟨0, left - n, Nat.zero_le _, rfl, rfl, by simp [Hid, tot]⟩
  case round =>
    obtain ⟨k, t, hk, rfl, rfl, ht⟩ := hrel
    by_cases hlt : k < n
    · have hkx : k < xss.length := by rw [HN.out]; exact hlt
      have hrt := row_le_tot hkx
      obtain ⟨b, off, B, C, rfl, hc, hl⟩ := HA.out k hlt
      have ht0 : ((row xss k).length : Int) ≤ t := by rw [ht.out]; omega
      have ht1 : t ≤ 1048576 := by rw [ht.out]; omega
      have ht2 : 0 ≤ t - ((row xss k).length : Int) := by omega
      go_wp2_with (go_at_call 41; refine (szS_in _ _ _ _ _ ht0 ht1).mono ?_; rintro e w1 ⟨rfl, rfl⟩)
      go_round
      case rel =>
        refine ⟨k + 1, t - ((row xss k).length : Int), by omega, by go_num, rfl, ?_⟩
        show _ = _
        rw [ht.out, tot_take_succ hkx]; omega
      case measure => simp [intOf]; omega
    · obtain rfl : k = n := by omega
      have e : t = left - k - (tot xss : Nat) := by rw [ht.out, List.take_of_length_le (by rw [HN.out]; exact Nat.le_refl _)]
      have HE := Lib.hid e
      clear e
      go_wp2
      go_ret
      exact ⟨ret_i HE.out, rfl⟩

set_option maxHeartbeats 400000 in
theorem szSS_out (w : World) (A : Option Addr) (n c : Nat) (xss : List (List Int)) (left : Int) (hA : AtL w A n (fun k => (row xss k).length)) (hn : xss.length = n) (h0 : left < (n : Int) + (tot xss : Nat)) (h1 : 0 ≤ left) (h2 : left ≤ 1048576) (hm : n ≤ 9223372036854775807) :
    Calls Tryz.prog 20 #[.slice A n c, .int .i64 left] w fun e w' => e = .returned (.int .i64 (-1)) ∧ w = w' := by
  have HA := Lib.hid hA
  have HN := Lib.hid hn
  clear hA hn
  by_cases hl0 : left < n
  · go_enter Tryz.func20, Tryz.ntmps20
    go_wp2
    go_ret
    exact ⟨rfl, rfl⟩
  have hl1 : (n : Int) ≤ left := by omega
  clear hl0
  go_enter Tryz.func20, Tryz.ntmps20
  go_wp2
  go_loop [1, 5] (fun q i => ∃ (k : Nat) (t : Int), k ≤ n ∧ i = .int .i64 k ∧ q = .int .i64 t ∧ Hid (t = left - n - (tot (xss.take k) : Nat)) ∧ 0 ≤ t ∧ t ≤ 1048576) (fun _ i => n - (intOf i).toNat)
  case atStart => exact ⟨0, left - n, Nat.zero_le _, rfl, rfl, by simp [Hid, tot], by omega, by omega⟩
  case round =>
    obtain ⟨k, t, hk, rfl, rfl, ht, ht0, ht1⟩ := hrel
    by_cases hlt : k < n
    · have hkx : k < xss.length := by rw [HN.out]; exact hlt
      obtain ⟨b, off, B, C, rfl, hc, hl⟩ := HA.out k hlt
      by_cases hfit : ((row xss k).length : Int) ≤ t
      · have ht2 : 0 ≤ t - ((row xss k).length : Int) := by omega
        go_wp2_with (go_at_call 41; refine (szS_in _ _ _ _ _ hfit ht1).mono ?_; rintro e w1 ⟨rfl, rfl⟩)
        go_round
        case rel =>
          refine ⟨k + 1, t - ((row xss k).length : Int), by omega, by go_num, rfl, ?_, by omega, by omega⟩
          show _ = _
          rw [ht.out, tot_take_succ hkx]; omega
        case measure => simp [intOf]; omega
      · have hf' : t < ((row xss k).length : Int) := by omega
        clear hfit
        go_wp2_with (go_at_call 41; refine (szS_out _ _ _ _ _ hf' ht0 hl).mono ?_; rintro e w1 ⟨rfl, rfl⟩)
        go_ret
        exact ⟨rfl, rfl⟩
    · exfalso
      obtain rfl : k = n := by omega
      have e : t = left - k - (tot xss : Nat) := by rw [ht.out, List.take_of_length_le (by rw [HN.out]; exact Nat.le_refl _)]
      omega

theorem take_set_nth {xs : List Int} {k n : Nat} (h : k < xs.length) (hn : xs.length = n) :
    (xs.take k ++ List.replicate (n - k) 0).set k (nth xs k) = xs.take (k + 1) ++ List.replicate (n - (k + 1)) 0 := by
  have hk : (xs.take k).length = k := by simp; omega
  rw [List.set_append_right _ _ (by omega), hk, Nat.sub_self, show n - k = (n - (k + 1)) + 1 from by omega, List.replicate_succ, List.set_cons_zero, take_nth h, List.append_assoc]
  rfl
theorem take_set_row {xs : List (List Int)} {k n : Nat} (h : k < xs.length) (hn : xs.length = n) :
    (xs.take k ++ List.replicate (n - k) []).set k (row xs k) = xs.take (k + 1) ++ List.replicate (n - (k + 1)) [] := by
  have hk : (xs.take k).length = k := by simp; omega
  rw [List.set_append_right _ _ (by omega), hk, Nat.sub_self, show n - k = (n - (k + 1)) + 1 from by omega, List.replicate_succ, List.set_cons_zero, take_row h, List.append_assoc]
  rfl

set_option maxHeartbeats 400000 in
/-- toInt64S copies the slice into new memory. -/
theorem toS (w : World) (A : Option Addr) (n c : Nat) (xs : List Int) (hx : RdI w A c xs) (hn : xs.length = n) (hb : n ≤ 17592186044416) :
    Calls Tryz.prog 15 #[.slice A n c] w fun e w' => (∃ A', e = .returned (.slice A' n n) ∧ OwnI w' w.heap.size A' n xs) ∧ Below w.heap.size w w' := by
  have HX := Lib.hid hx
  have HN := Lib.hid hn
  clear hx hn
  have hmk := fun W : World => run_make_row' (P := Tryz.prog) 35 2 (.int .i64 0) 8 Tryz.underlying35 infoI rfl .i64 .i64 n (by omega) (by omega) W
  have h0 := OwnI.made w n (by unfold maxLen; omega) (Nat.le_refl w.heap.size)
  have H0 := Lib.hid h0
  clear h0
  go_enter Tryz.func15, Tryz.ntmps15
  go_wp2
  go_loopw [4] (fun i wr => ∃ k : Nat, k ≤ n ∧ i = .int .i64 k ∧ OwnI wr w.heap.size (some ⟨w.heap.size, 0, none⟩) n (xs.take k ++ List.replicate (n - k) 0) ∧ Below w.heap.size w wr) (fun i _ => n - (intOf i).toNat)
  case atStart => exact ⟨0, Nat.zero_le _, rfl, by simpa using H0.out, (Below.refl _ _).alloc (Nat.le_refl _) _⟩
  case round =>
    obtain ⟨k, hk, rfl, ho, hB⟩ := hrel
    by_cases hlt : k < n
    · have hkx : k < xs.length := by rw [HN.out]; exact hlt
      obtain ⟨b, off, rfl, hbs, hc⟩ := (HX.out).at_ k hkx
      have hcr : wr.cell? ⟨b, off + k, none⟩ = some (.int .i64 (nth xs k)) := (hB.cell (p := ⟨b, off + k, none⟩) hbs).trans hc
      have hlen : (xs.take k ++ List.replicate (n - k) (0 : Int)).length = n := by simp; rw [HN.out]; omega
      obtain ⟨g, e, hlg, hgs, hc1, hf1⟩ := ho.at_ (k := k) (by rw [hlen]; exact hlt)
      injection e with e
      injection e with e
      subst e
      have hs := ho.stored k (nth xs k)
      rw [take_set_nth hkx HN.out] at hs
      have HS := Lib.hid hs
      have HB := Lib.hid (hB.setCell (p := ⟨w.heap.size, k, none⟩) (Nat.le_refl _) (.int .i64 (nth xs k)))
      clear hs ho hlen hc hmk
      go_wp2
      go_roundw
      case rel => exact ⟨k + 1, by omega, by go_num, HS.out, HB.out⟩
      case measure => simp [intOf]; omega
    · obtain rfl : k = n := by omega
      have ho' : OwnI wr w.heap.size (some ⟨w.heap.size, 0, none⟩) k xs := by
        have e : xs.take k ++ List.replicate (k - k) 0 = xs := by rw [List.take_of_length_le (by rw [HN.out]; exact Nat.le_refl _)]; simp
        rwa [e] at ho
      have HO := Lib.hid ho'
      clear ho ho' hmk
      go_wp2
      go_ret
      exact ⟨⟨_, rfl, HO.out⟩, hB⟩

theorem nth_rep {α : Type} {xs : List α} {k n : Nat} {d : α} (hk : k ≤ xs.length) (hn : xs.length = n) : (xs.take k ++ List.replicate (n - k) d).length = n := by simp; omega

set_option maxHeartbeats 800000 in
/-- toInt64SS copies the slice and its rows into new memory. -/
theorem toSS (w : World) (A : Option Addr) (n c : Nat) (R : Spine) (xss : List (List Int)) (hx : RdM w A c R xss) (hn : xss.length = n) (hb : n ≤ 4398046511104) (hb2 : ∀ k, k < n → (row xss k).length ≤ 17592186044416) :
    Calls Tryz.prog 23 #[.slice A n c] w fun e w' => (∃ A' R', e = .returned (.slice A' n n) ∧ OwnM w' w.heap.size A' n R' xss) ∧ Below w.heap.size w w' := by
  have HX := Lib.hid hx
  have HN := Lib.hid hn
  have HB2 := Lib.hid hb2
  clear hx hn hb2
  have hmk := fun W : World => run_make_row' (P := Tryz.prog) 22 35 (.slice none 0 0) 24 Tryz.underlying22 infoS rfl .i64 .i64 n (by omega) (by omega) W
  have h0 := OwnM.made w n (by unfold maxLen; omega) (Nat.le_refl w.heap.size)
  have H0 := Lib.hid h0
  clear h0
  go_enter Tryz.func23, Tryz.ntmps23
  go_wp2
  go_loopw [4] (fun i wr => ∃ k : Nat, k ≤ n ∧ i = .int .i64 k ∧ (∃ R', OwnM wr w.heap.size (some ⟨w.heap.size, 0, none⟩) n R' (xss.take k ++ List.replicate (n - k) []) ∧ (∀ j, k ≤ j → (R' j).1 = none)) ∧ Below w.heap.size w wr) (fun i _ => n - (intOf i).toNat)
  case atStart => exact ⟨0, Nat.zero_le _, rfl, ⟨_, by simpa using H0.out, fun _ _ => rfl⟩, (Below.refl _ _).alloc (Nat.le_refl _) _⟩
  case round =>
    obtain ⟨k, hk, rfl, ⟨R', ho, hR'⟩, hB⟩ := hrel
    by_cases hlt : k < n
    · have hkx : k < xss.length := by rw [HN.out]; exact hlt
      obtain ⟨b, off, rfl, hbs, hc⟩ := (HX.out).at_ k hkx
      have hcr : wr.cell? ⟨b, off + k, none⟩ = some (.slice (R k).1 (row xss k).length (R k).2) := (hB.cell (p := ⟨b, off + k, none⟩) hbs).trans hc
      have hlen : (xss.take k ++ List.replicate (n - k) []).length = n := nth_rep (by omega) HN.out
      have hcall := toS wr (R k).1 (row xss k).length (R k).2 (row xss k) ((HX.out.rows k hkx).keep hB.size fun _ hp => hB.cell hp) rfl (HB2.out k hlt)
      have HC := Lib.hid hcall
      have HO := Lib.hid ho
      have HL := Lib.hid hlen
      have HR := Lib.hid hR'
      clear ho hlen hc hmk hcall hR'
      go_wp2_with fail
      refine (HC.out).mono ?_
      rintro e w1 ⟨⟨A1, rfl, ho1⟩, hb1⟩
      have hz : w.heap.size ≤ wr.heap.size := hB.size
      have ho2 := HO.out.below hb1
      obtain ⟨g, e, hlg, hgs, hc1, hf1⟩ := ho2.at_ (k := k) (by rw [HL.out]; exact hlt)
      injection e with e
      injection e with e
      subst e
      have hs := ho2.set_row (i := k) (by rw [HL.out]; exact hlt) (ho1.lower hz) (fun j hj hjk g e => by
        have h1 := (HO.out.rows j hj).lt e
        intro e2
        have h2 := ho1.lt e2
        omega)
      rw [take_set_row hkx HN.out] at hs
      have HS := Lib.hid hs
      have HB := Lib.hid ((hB.trans (hb1.mono hz)).setCell (p := ⟨w.heap.size, k, none⟩) (Nat.le_refl _) (.slice A1 (row xss k).length (row xss k).length))
      clear hs ho2 ho1 hcr
      go_wp2
      go_roundw
      case rel => exact ⟨k + 1, by omega, by go_num, ⟨_, HS.out, fun j hj => by simp only [putS]; rw [if_neg (by omega)]; exact HR.out j (by omega)⟩, HB.out⟩
      case measure => simp [intOf]; omega
    · obtain rfl : k = n := by omega
      have ho' : OwnM wr w.heap.size (some ⟨w.heap.size, 0, none⟩) k R' xss := by
        have e : xss.take k ++ List.replicate (k - k) [] = xss := by rw [List.take_of_length_le (by rw [HN.out]; exact Nat.le_refl _)]; simp
        rwa [e] at ho
      have HO := Lib.hid ho'
      clear ho ho' hmk hR'
      go_wp2
      go_ret
      exact ⟨⟨_, R', rfl, HO.out⟩, hB⟩
end Go.Proofs.YtmmkmkbpgcbehaaGreat

/-
  Small functions of the program and of the reference: within, l00In. Conditions: none.
-/
namespace Go.Proofs.YtmmkmkbpgcbehaaGreat
open Go.RowKit
set_option linter.unusedVariables false
set_option linter.unusedSimpArgs false

/-- low ≤ n ≤ high. -/
def inB (n lo hi : Int) : Bool := decide (lo ≤ n ∧ n ≤ hi)
theorem inB_true {n lo hi : Int} : inB n lo hi = true ↔ lo ≤ n ∧ n ≤ hi := by simp [inB]
theorem inB_false {n lo hi : Int} : inB n lo hi = false ↔ ¬ (lo ≤ n ∧ n ≤ hi) := by simp [inB]

theorem within_c (n lo hi : Int) (w : World) : Calls Tryz.prog 92 #[.int .i64 n, .int .i64 lo, .int .i64 hi] w fun e w' => e = .returned (.bool (inB n lo hi)) ∧ w = w' := by
  have e : inB n lo hi = inB n lo hi := rfl
  by_cases h1 : lo ≤ n <;> by_cases h2 : n ≤ hi
  · have hb : inB n lo hi = true := inB_true.2 ⟨h1, h2⟩
    rw [hb]
    clear hb e
    go_enter Tryz.func92, Tryz.ntmps92
    go_wp2
    go_ret
    exact ⟨rfl, rfl⟩
  all_goals
    have hb : inB n lo hi = false := inB_false.2 (by omega)
    rw [hb]
    clear hb e
    go_enter Tryz.func92, Tryz.ntmps92
    go_wp2
    go_ret
    exact ⟨rfl, rfl⟩

theorem in_c (n lo hi : Int) (w : World) : Calls Tryz.prog 71 #[.int .i64 n, .int .i64 lo, .int .i64 hi] w fun e w' => e = .returned (.bool (inB n lo hi)) ∧ w = w' := by
  by_cases h1 : lo ≤ n <;> by_cases h2 : n ≤ hi
  · have hb : inB n lo hi = true := inB_true.2 ⟨h1, h2⟩
    rw [hb]
    clear hb
    go_enter Tryz.func71, Tryz.ntmps71
    go_wp2
    go_ret
    exact ⟨rfl, rfl⟩
  all_goals
    have hb : inB n lo hi = false := inB_false.2 (by omega)
    rw [hb]
    clear hb
    go_enter Tryz.func71, Tryz.ntmps71
    go_wp2
    go_ret
    exact ⟨rfl, rfl⟩
end Go.Proofs.YtmmkmkbpgcbehaaGreat

/-
  What the laws' own walks need: endings of contracts, objects in an interval of blocks, the helpers' contracts in one shape. Conditions: those of each theorem.
-/
namespace Go.Proofs.YtmmkmkbpgcbehaaGreat
open Go.RowKit
set_option linter.unusedVariables false
set_option linter.unusedSimpArgs false

/-- The call returned v; what lay in memory lies as it did. -/
def PostV (w : World) (v : Value) (e : Ending) (w' : World) : Prop := e = .returned v ∧ Below w.heap.size w w'
/-- It returned a slice of its own that reads as xs, and a code. -/
def PostSC (w : World) (xs : List Int) (k : Int) (e : Ending) (w' : World) : Prop :=
  (∃ A n c, e = .returned (.tuple #[.slice A n c, .int .i64 k]) ∧ xs.length = n ∧ OwnI w' w.heap.size A c xs) ∧ Below w.heap.size w w'
def PostS (w : World) (xs : List Int) (e : Ending) (w' : World) : Prop :=
  (∃ A n c, e = .returned (.slice A n c) ∧ xs.length = n ∧ OwnI w' w.heap.size A c xs) ∧ Below w.heap.size w w'
def PostMC (w : World) (xss : List (List Int)) (k : Int) (e : Ending) (w' : World) : Prop :=
  (∃ A n c R, e = .returned (.tuple #[.slice A n c, .int .i64 k]) ∧ xss.length = n ∧ OwnM w' w.heap.size A c R xss) ∧ Below w.heap.size w w'
def PostM (w : World) (xss : List (List Int)) (e : Ending) (w' : World) : Prop :=
  (∃ A n c R, e = .returned (.slice A n c) ∧ xss.length = n ∧ OwnM w' w.heap.size A c R xss) ∧ Below w.heap.size w w'

/-- Numbers that fit int64. -/
def WfL (xs : List Int) : Prop := ∀ x ∈ xs, -9223372036854775808 ≤ x ∧ x ≤ 9223372036854775807
def WfM (xss : List (List Int)) : Prop := ∀ xs ∈ xss, WfL xs

/-- Blocks from lo up to hi are as they were where they lie outside of the interval; none has gone. -/
structure Mid (lo hi : Nat) (w w' : World) : Prop where
  os : w'.os = w.os
  tape : w'.tape = w.tape
  output : w'.output = w.output
  size : w.heap.size ≤ w'.heap.size
  block : ∀ k, k < w.heap.size → k < lo ∨ hi ≤ k → w'.heap[k]? = w.heap[k]?

theorem Mid.below {lo hi B : Nat} {w w' : World} (h : Mid lo hi w w') (hB : B ≤ lo) (hs : B ≤ w.heap.size) : Below B w w' :=
  ⟨h.os, h.tape, h.output, h.size, fun k hk => h.block k (by omega) (.inl (by omega))⟩

/-- An owned slice whose block lies below hi. -/
structure InI (w : World) (lo hi : Nat) (A : Option Addr) (c : Nat) (xs : List Int) : Prop where
  own : OwnI w lo A c xs
  top : ∀ g, A = some ⟨g, 0, none⟩ → g < hi
structure InM (w : World) (lo hi : Nat) (A : Option Addr) (c : Nat) (R : Spine) (xss : List (List Int)) : Prop where
  own : OwnM w lo A c R xss
  top : ∀ g, A = some ⟨g, 0, none⟩ → g < hi
  tops : ∀ k, k < xss.length → ∀ g, (R k).1 = some ⟨g, 0, none⟩ → g < hi

section
variable {w w' : World} {lo hi : Nat} {A : Option Addr} {c : Nat} {xs : List Int} {R : Spine} {xss : List (List Int)}
theorem OwnI.in_ (h : OwnI w lo A c xs) : InI w lo w.heap.size A c xs := ⟨h, fun _ e => (h.lt e).2⟩
theorem OwnM.in_ (h : OwnM w lo A c R xss) : InM w lo w.heap.size A c R xss := ⟨h, fun _ e => (h.lt e).2, fun k hk _ e => ((h.rows k hk).lt e).2⟩
theorem InI.step (h : InI w lo hi A c xs) (hk : ∀ k, lo ≤ k → k < hi → w'.heap[k]? = w.heap[k]?) : InI w' lo hi A c xs :=
  ⟨h.own.of_block fun g e => hk g (h.own.lt e).1 (h.top g e), h.top⟩
theorem InM.step (h : InM w lo hi A c R xss) (hk : ∀ k, lo ≤ k → k < hi → w'.heap[k]? = w.heap[k]?) : InM w' lo hi A c R xss := by
  refine ⟨⟨⟨h.own.own.1, ?_⟩, fun k hk' => (h.own.rows k hk').of_block fun g e => hk g ((h.own.rows k hk').lt e).1 (h.tops k hk' g e), h.own.apart⟩, h.top, h.tops⟩
  rcases h.own.own.2 with hn | ⟨g, cap, cur, e, hg, hh, r⟩
  · exact .inl hn
  · refine .inr ⟨g, cap, cur, e, hg, ?_, r⟩
    injection e with e1
    rw [hk g hg (h.top g e1)]
    exact hh
/-- A thing that only reads: below what was there. -/
theorem RdI.step (h : RdI w A c xs) {B : Nat} (hB : ∀ b off, A = some ⟨b, off, none⟩ → b < B) (hb : Below B w w') : RdI w' A c xs :=
  ⟨h.le, h.cap, fun k hk => by
    obtain ⟨b, off, e, hl, hc⟩ := h.at_ k hk
    have := hB b off e
    exact ⟨b, off, e, by have := hb.size; omega, (hb.cell (p := ⟨b, off + k, none⟩) this).trans hc⟩⟩
end

/-! ### The helpers in one shape -/

theorem eqS_v (w : World) {A A' : Option Addr} {n c c' : Nat} {xs : List Int} (hx : RdI w A c xs) (hy : RdI w A' c' xs) (hn : xs.length = n) (hb : xs.length ≤ 140737488355328) :
    Calls Tryz.prog 17 #[.slice A n c, .slice A' n c'] w (PostV w (.bool true)) := by
  have h := eqS w hx hy hn hn hb
  rw [decide_eq_true rfl] at h
  exact h.mono fun _ _ ⟨he, m, hm⟩ => ⟨he, hm ▸ below_drewN (Below.refl _ _) m⟩
theorem eqSS_v (w : World) {A A' : Option Addr} {n c c' : Nat} {R R' : Spine} {xss : List (List Int)} (hx : RdM w A c R xss) (hy : RdM w A' c' R' xss) (hn : xss.length = n) (hb : xss.length ≤ 140737488355328)
    (hb' : ∀ k, k < xss.length → (row xss k).length ≤ 140737488355328) :
    Calls Tryz.prog 9 #[.slice A n c, .slice A' n c'] w (PostV w (.bool true)) := by
  have h := eqSS w hx hy hn hn hb hb'
  rw [decide_eq_true rfl] at h
  exact h.mono fun _ _ ⟨he, m, hm⟩ => ⟨he, hm ▸ below_drewN (Below.refl _ _) m⟩

/-- What mark leaves: numbers k0, k0 + 1, .. -/
theorem markS_v (w : World) {lo hi : Nat} {A : Option Addr} {c n : Nat} {xs : List Int} (k0 : Int) (h : InI w lo hi A c xs) (hn : xs.length = n) (h0 : 0 ≤ k0) (hb : k0 + (n : Int) ≤ 4611686018427387904) :
    Calls Tryz.prog 18 #[.slice A n c, .int .i64 k0] w fun e w' => e = .returned (.int .i64 (k0 + n)) ∧ InI w' lo hi A c (upFrom k0 n) ∧ Mid lo hi w w' :=
  (markS w lo A c xs n k0 h.own hn h0 hb).mono fun _ _ ⟨he, ho, hg⟩ => ⟨he, ⟨ho, h.top⟩, ⟨hg.os, hg.tape, hg.output, hg.size, fun k hk hout => hg.block k hk fun e => by
    rcases h.own.form with ⟨e1, _⟩ | ⟨g, e1, hl, _⟩
    · rw [e1] at e; simp [blk] at e
    · rw [e1, blk_some] at e
      injection e with e
      have := h.top g e1
      omega⟩⟩
theorem heldS_v (w : World) {A : Option Addr} {c n : Nat} (k0 : Int) (h : RdI w A c (upFrom k0 n)) (h0 : 0 ≤ k0) (hb : k0 + (n : Int) ≤ 4611686018427387904) :
    Calls Tryz.prog 26 #[.slice A n c, .int .i64 k0] w fun e w' => e = .returned (.int .i64 (k0 + n)) ∧ Below w.heap.size w w' :=
  (heldS w A n c k0 (fun k hk => by
    obtain ⟨b, off, e1, e2, e3⟩ := h.at_ k (by rw [length_upFrom]; exact hk)
    rw [nth_upFrom hk] at e3
    exact ⟨b, off, e1, e2, e3⟩) h0 hb).mono fun _ _ ⟨he, hw⟩ => ⟨he, hw ▸ Below.refl _ _⟩
theorem markSS_v (w : World) {lo hi : Nat} {A : Option Addr} {c n : Nat} {R : Spine} {xss : List (List Int)} (k0 : Int) (h : InM w lo hi A c R xss) (hn : xss.length = n) (h0 : 0 ≤ k0) (hb : k0 + (tot xss : Nat) ≤ 4611686018427387904) :
    Calls Tryz.prog 12 #[.slice A n c, .int .i64 k0] w fun e w' => e = .returned (.int .i64 (k0 + (tot xss : Nat))) ∧ (∃ yss, InM w' lo hi A c R yss ∧ Marked k0 n xss yss) ∧ Mid lo hi w w' :=
  (markSS w lo A c R xss n k0 h.own hn h0 hb).mono fun _ _ ⟨he, ⟨yss, ho, hM⟩, hg⟩ => ⟨he, ⟨yss, ⟨ho, h.top, fun k hk => h.tops k (by rw [hM.1] at hk; exact hk)⟩, hM⟩, ⟨hg.os, hg.tape, hg.output, hg.size, fun k hk hout => hg.block k hk fun j hj e => by
    have hj' : j < xss.length := by omega
    rcases (h.own.rows j hj').form with ⟨e1, _⟩ | ⟨g, e1, hl, _⟩
    · rw [e1] at e; simp [blk] at e
    · rw [e1, blk_some] at e
      injection e with e
      have := h.tops j hj' g e1
      omega⟩⟩
theorem heldSS_v (w : World) {A : Option Addr} {c n : Nat} {R : Spine} {xss yss : List (List Int)} (k0 : Int) (h : RdM w A c R yss) (hM : Marked k0 n xss yss) (hn : xss.length = n) (h0 : 0 ≤ k0) (hb : k0 + (tot xss : Nat) ≤ 4611686018427387904) :
    Calls Tryz.prog 13 #[.slice A n c, .int .i64 k0] w fun e w' => e = .returned (.int .i64 (k0 + (tot xss : Nat))) ∧ Below w.heap.size w w' :=
  (heldSS w A c R xss yss n k0 h hM hn h0 hb).mono fun _ _ ⟨he, hw⟩ => ⟨he, hw ▸ Below.refl _ _⟩
theorem row_small {xss : List (List Int)} (h : tot xss ≤ 1048576) : ∀ k, k < xss.length → (row xss k).length ≤ 1048576 := fun k hk => by
  have := row_le_tot hk
  omega
end Go.Proofs.YtmmkmkbpgcbehaaGreat

/-
  slices.IndexFunc and slices.ContainsFunc over slices of int64 and over slices of such slices, at whatever function value that writes nothing that was there; size. Conditions: those of each theorem.
-/
namespace Go.Proofs.YtmmkmkbpgcbehaaGreat
open Go.RowKit
set_option linter.unusedVariables false
set_option linter.unusedSimpArgs false

/-- The first k < n with p k, else -1. -/
def firstIdx (p : Nat → Bool) (n : Nat) : Int := match (List.range n).find? p with | some k => (k : Int) | none => -1
def anyTo (p : Nat → Bool) (n : Nat) : Bool := (List.range n).any p

theorem firstIdx_hit {p : Nat → Bool} {n k : Nat} (hk : k < n) (hp : p k = true) (hl : ∀ j, j < k → p j = false) : firstIdx p n = (k : Int) := by
  unfold firstIdx
  have : (List.range n).find? p = some k := by
    rw [List.find?_eq_some_iff_append]
    refine ⟨hp, List.range k, (List.range n).drop (k + 1), ?_, fun a ha => by simp [hl a (List.mem_range.1 ha)]⟩
    have h1 : (List.range n).take k = List.range k := by rw [List.take_range]; congr 1; omega
    have h2 : (List.range n)[k]'(by simpa using hk) = k := by simp
    have h3 := List.drop_eq_getElem_cons (l := List.range n) (i := k) (by simpa using hk)
    rw [h2] at h3
    rw [← h1, ← h3, List.take_append_drop]
  rw [this]
theorem firstIdx_miss {p : Nat → Bool} {n : Nat} (hl : ∀ j, j < n → p j = false) : firstIdx p n = -1 := by
  unfold firstIdx
  rw [List.find?_eq_none.2 fun x hx => by simp [hl x (List.mem_range.1 hx)]]
theorem firstIdx_bounds (p : Nat → Bool) (n : Nat) : -1 ≤ firstIdx p n ∧ firstIdx p n < (n : Int) ∨ firstIdx p n = -1 := by
  unfold firstIdx
  split
  · next k hk =>
    have := List.mem_range.1 (List.mem_of_find?_eq_some hk)
    exact .inl (by omega)
  · exact .inr rfl
theorem anyTo_true {p : Nat → Bool} {n : Nat} : anyTo p n = true ↔ ∃ k, k < n ∧ p k = true := by simp [anyTo]
theorem anyTo_false {p : Nat → Bool} {n : Nat} : anyTo p n = false ↔ ∀ k, k < n → p k = false := by simp [anyTo]
theorem firstIdx_any (p : Nat → Bool) (n : Nat) : decide (0 ≤ firstIdx p n) = anyTo p n := by
  by_cases h : ∃ k, k < n ∧ p k = true
  · rw [anyTo_true.2 h]
    unfold firstIdx
    split
    · simp
    · next he =>
      obtain ⟨k, hk, hp⟩ := h
      have := List.find?_eq_none.1 he k (List.mem_range.2 hk)
      simp [hp] at this
  · have hf : ∀ k, k < n → p k = false := fun k hk => by
      rcases hpk : p k with _ | _
      · rfl
      · exact absurd ⟨k, hk, hpk⟩ h
    rw [anyTo_false.2 hf, firstIdx_miss hf]
    decide

set_option maxHeartbeats 400000 in
theorem indexFuncM (w : World) (A : Option Addr) (n c : Nat) (R : Spine) (xs : List (List Int)) (g : Nat) (lb : Array Value) (p : Nat → Bool) (eg : ∀ args w, (callFunc g args).run Tryz.prog w = .ok (.enter g args) w)
    (hr : RdM w A c R xs) (hn : xs.length = n) (hp : ∀ W k, k < n → Below w.heap.size w W → Calls Tryz.prog g (#[.slice (R k).1 (row xs k).length (R k).2] ++ lb) W (PostV W (.bool (p k)))) :
    Calls Tryz.prog 51 #[.slice A n c, .func (.func g) #[] lb] w (PostV w (.int .i64 (firstIdx p n))) := by
  have hm : n ≤ 9223372036854775807 := by have h1 := hr.le; have h2 := hr.cap; unfold maxLen at h2; omega
  have HR := Lib.hid hr
  have HN := Lib.hid hn
  have HP := Lib.hid hp
  clear hr hn hp
  go_enter Tryz.func51, Tryz.ntmps51
  go_wp2
  go_loopw [8] (fun i wr => ∃ k : Nat, k ≤ n ∧ i = .int .i64 k ∧ Hid (∀ j, j < k → p j = false) ∧ Below w.heap.size w wr) (fun i _ => n - (intOf i).toNat)
  case atStart => exact ⟨0, Nat.zero_le _, rfl, fun j hj => absurd hj (by omega), Below.refl _ _⟩
  case round =>
    obtain ⟨k, hk, rfl, hF, hB⟩ := hrel
    by_cases hlt : k < n
    · obtain ⟨b, off, rfl, hb, hc⟩ := HR.out.at_ k (by rw [HN.out]; exact hlt)
      have hcr : wr.cell? ⟨b, off + k, none⟩ = some (.slice (R k).1 (row xs k).length (R k).2) := (hB.cell (p := ⟨b, off + k, none⟩) hb).trans hc
      have hcall := HP.out wr k hlt hB
      clear hc
      rcases hq : p k with _ | _
      · rw [hq] at hcall
        have HC := Lib.hid hcall
        have HQ := Lib.hid hq
        clear hcall hq
        go_wp2_with fail
        refine (HC.out).mono ?_
        rintro e w1 ⟨rfl, hb1⟩
        have hB1 : Below w.heap.size w w1 := hB.trans (hb1.mono hB.size)
        go_wp2
        go_roundw
        case rel =>
          refine ⟨k + 1, by omega, by go_num, fun j hj => ?_, hB1⟩
          by_cases e : j = k
          · subst e; exact HQ.out
          · exact hF.out j (by omega)
        case measure => simp [intOf]; omega
      · rw [hq] at hcall
        have HC := Lib.hid hcall
        have HE := Lib.hid (firstIdx_hit hlt hq hF.out)
        clear hcall hq
        go_wp2_with fail
        refine (HC.out).mono ?_
        rintro e w1 ⟨rfl, hb1⟩
        have hB1 : Below w.heap.size w w1 := hB.trans (hb1.mono hB.size)
        go_wp2
        go_ret
        exact ⟨by rw [HE.out]; rfl, hB1⟩
    · obtain rfl : k = n := by omega
      have HE := Lib.hid (firstIdx_miss hF.out)
      go_wp2
      go_ret
      exact ⟨by rw [HE.out]; rfl, hB⟩

set_option maxHeartbeats 400000 in
theorem containsFuncM (w : World) (A : Option Addr) (n c : Nat) (R : Spine) (xs : List (List Int)) (g : Nat) (lb : Array Value) (p : Nat → Bool) (eg : ∀ args w, (callFunc g args).run Tryz.prog w = .ok (.enter g args) w)
    (hr : RdM w A c R xs) (hn : xs.length = n) (hp : ∀ W k, k < n → Below w.heap.size w W → Calls Tryz.prog g (#[.slice (R k).1 (row xs k).length (R k).2] ++ lb) W (PostV W (.bool (p k)))) :
    Calls Tryz.prog 64 #[.slice A n c, .func (.func g) #[] lb] w (PostV w (.bool (anyTo p n))) := by
  have HC := Lib.hid (indexFuncM w A n c R xs g lb p eg hr hn hp)
  have HE := Lib.hid (firstIdx_any p n)
  clear hr hn hp
  go_enter Tryz.func64, Tryz.ntmps64
  go_wp2_with fail
  refine (HC.out).mono ?_
  rintro e w1 ⟨rfl, hb1⟩
  go_wp2
  go_ret
  exact ⟨by rw [← HE.out]; rfl, hb1⟩

theorem sizeI_c (w : World) (A : Option Addr) (n c : Nat) : Calls Tryz.prog 82 #[.slice A n c] w fun e w' => e = .returned (.int .i64 (n : Int)) ∧ w = w' := by
  go_enter Tryz.func82, Tryz.ntmps82
  go_wp2
  go_ret
  exact ⟨rfl, rfl⟩
theorem sizeS_c (w : World) (A : Option Addr) (n c : Nat) : Calls Tryz.prog 80 #[.slice A n c] w fun e w' => e = .returned (.int .i64 (n : Int)) ∧ w = w' := by
  go_enter Tryz.func80, Tryz.ntmps80
  go_wp2
  go_ret
  exact ⟨rfl, rfl⟩
end Go.Proofs.YtmmkmkbpgcbehaaGreat

/-
  filledSquare and emptySquare: a square of what a function value gives. Conditions: those of each theorem.
-/
namespace Go.Proofs.YtmmkmkbpgcbehaaGreat
open Go.RowKit
set_option linter.unusedVariables false
set_option linter.unusedSimpArgs false

def rowTo (f : Nat → Nat → Int) (x k : Nat) : List Int := (List.range k).map fun y => f x y
def sqTo (f : Nat → Nat → Int) (m k : Nat) : List (List Int) := (List.range k).map fun x => rowTo f x m
theorem length_rowTo (f : Nat → Nat → Int) (x k : Nat) : (rowTo f x k).length = k := by simp [rowTo]
theorem length_sqTo (f : Nat → Nat → Int) (m k : Nat) : (sqTo f m k).length = k := by simp [sqTo]
theorem rowTo_succ (f : Nat → Nat → Int) (x k : Nat) : rowTo f x (k + 1) = rowTo f x k ++ [f x k] := by simp [rowTo, List.range_succ]
theorem sqTo_succ (f : Nat → Nat → Int) (m k : Nat) : sqTo f m (k + 1) = sqTo f m k ++ [rowTo f k m] := by simp [sqTo, List.range_succ]
theorem row_sqTo {f : Nat → Nat → Int} {m k x : Nat} (h : x < k) : row (sqTo f m k) x = rowTo f x m := by simp [row, sqTo, h]
theorem nth_rowTo {f : Nat → Nat → Int} {x k y : Nat} (h : y < k) : nth (rowTo f x k) y = f x y := by simp [nth, rowTo, h]
theorem tot_sqTo (f : Nat → Nat → Int) (m k : Nat) : tot (sqTo f m k) = k * m := by
  induction k with
  | zero => simp [tot, sqTo]
  | succ k ih => rw [sqTo_succ, tot_append, ih, tot_one, length_rowTo, Nat.succ_mul]
theorem below_blk {w w' : World} {lo B : Nat} {A : Option Addr} {c : Nat} {xs : List Int} (ho : OwnI w lo A c xs) (hg : w.grownBy w' (blk A)) (hB : B ≤ lo) (hs : B ≤ w.heap.size) : Below B w w' :=
  (Below.refl B w).grown hg hs fun g e => by
    rcases ho.form with ⟨e1, _⟩ | ⟨g1, e1, hl1, _⟩
    · rw [e1] at e; simp [blk] at e
    · rw [e1, blk_some] at e; injection e with e; omega
theorem below_blkM {w w' : World} {lo B : Nat} {A : Option Addr} {c : Nat} {R : Spine} {xss : List (List Int)} (ho : OwnM w lo A c R xss) (hg : w.grownBy w' (blk A)) (hB : B ≤ lo) (hs : B ≤ w.heap.size) : Below B w w' :=
  (Below.refl B w).grown hg hs fun g e => by
    rcases ho.form with ⟨e1, _⟩ | ⟨g1, e1, hl1, _⟩
    · rw [e1] at e; simp [blk] at e
    · rw [e1, blk_some] at e; injection e with e; omega
theorem OwnM.alloc {w : World} {lo : Nat} {A : Option Addr} {c : Nat} {R : Spine} {xss : List (List Int)} (h : OwnM w lo A c R xss) (o : Obj) : OwnM (w.alloc o) lo A c R xss :=
  h.below ((Below.refl _ _).alloc (Nat.le_refl _) o)
/-- A row made later lies apart from the rows that were there. -/
theorem later_apart {w0 w : World} {lo : Nat} {A A' : Option Addr} {c c' : Nat} {R : Spine} {xss : List (List Int)} {ys : List Int} (h : OwnM w0 lo A c R xss) (hr : OwnI w w0.heap.size A' c' ys) :
    ∀ k, k < xss.length → ∀ g, (R k).1 = some ⟨g, 0, none⟩ → A' ≠ some ⟨g, 0, none⟩ := fun k hk g e e2 => by
  have h1 := ((h.rows k hk).lt e).2
  have h2 := (hr.lt e2).1
  omega

set_option maxHeartbeats 1000000 in
theorem filledSquare_c (w : World) (N : Int) (m : Nat) (g : Nat) (lb : Array Value) (f : Nat → Nat → Int) (eg : ∀ args w, (callFunc g args).run Tryz.prog w = .ok (.enter g args) w) (hN : N.toNat = m) (hm : m ≤ 1048576)
    (hp : ∀ W x y, x < m → y < m → Below w.heap.size w W → Calls Tryz.prog g (#[.int .i64 (x : Int), .int .i64 (y : Int)] ++ lb) W (PostV W (.int .i64 (f x y)))) :
    Calls Tryz.prog 95 #[.int .i64 N, .func (.func g) #[] lb] w (PostM w (sqTo f m m)) := by
  have hN1 : N ≤ (m : Int) := by omega
  have hN2 : 0 < m → N = (m : Int) := by omega
  have HN2 := Lib.hid hN2
  have HP := Lib.hid hp
  clear hN hN2 hp
  go_enter Tryz.func95, Tryz.ntmps95
  go_wp2
  go_loopw [5, 6] (fun a x wr => ∃ (k : Nat) (A : Option Addr) (c : Nat) (R : Spine), k ≤ m ∧ x = .int .i64 k ∧ a = .slice A k c ∧ OwnM wr w.heap.size A c R (sqTo f m k) ∧ Below w.heap.size w wr) (fun _ x _ => m - (intOf x).toNat)
  case atStart => exact ⟨0, none, 0, fun _ => (none, 0), Nat.zero_le _, rfl, rfl, OwnM.nil_ _ _ _, Below.refl _ _⟩
  case round =>
    obtain ⟨k, A, c, R, hk, rfl, rfl, ho, hB⟩ := hrel
    obtain ⟨wo, rfl⟩ : ∃ wo : World, wo = wr := ⟨_, rfl⟩
    have HO := Lib.hid ho
    have hz := hB.size
    clear ho
    by_cases hlt : k < m
    · have hN3 : N = (m : Int) := HN2.out (by omega)
      subst hN3
      go_wp2
      go_loopw [7, 8] (fun r y wi => ∃ (j : Nat) (A' : Option Addr) (c' : Nat), j ≤ m ∧ y = .int .i64 j ∧ r = .slice A' j c' ∧ OwnI wi wo.heap.size A' c' (rowTo f k j) ∧ Below wo.heap.size wo wi) (fun _ y _ => m - (intOf y).toNat)
      case atStart => exact ⟨0, none, 0, Nat.zero_le _, rfl, rfl, OwnI.nil_ _ _, Below.refl _ _⟩
      case round =>
        obtain ⟨j, A', c', hj, rfl, rfl, hi, hBi⟩ := hrel
        have HI := Lib.hid hi
        have hzi := hBi.size
        clear hi
        by_cases hlt2 : j < m
        · have hcall := HP.out wr k j hlt hlt2 (hB.trans (hBi.mono hz))
          have HC := Lib.hid hcall
          clear hcall
          go_wp2_with fail
          refine (HC.out).mono ?_
          rintro e w1 ⟨rfl, hb1⟩
          have HI1 := Lib.hid ((HI.out.below hb1).alloc (.cells #[.int .i64 (f k j)] 2))
          have hB1 : Below wo.heap.size wo w1 := hBi.trans (hb1.mono hzi)
          have hz1 := hB1.size
          go_wp2_with (at_builtin
                       refine wpI_append rfl _ _ rfl wo.heap.size _ _ _ (rowTo f k j) (f k j) w1.heap.size rfl rfl (length_rowTo f k j) HI1.out (World.cell?_alloc_at _ _ _ _ rfl) (by omega) (by simp; omega) ?_
                       intro A2 c2 w2 ho2 hg2 ha2)
          have hB2 : Below wo.heap.size wo w2 := (hB1.alloc hz1 _).trans (below_blk HI1.out hg2 (Nat.le_refl _) (by simp; omega))
          have HO2 := Lib.hid ho2
          have HS := Lib.hid (rowTo_succ f k j)
          clear ho2 hg2 ha2
          go_wp2
          go_roundw
          case rel => exact ⟨j + 1, A2, c2, by omega, by go_num, rfl, by rw [HS.out]; exact HO2.out, hB2⟩
          case measure => simp [intOf]; omega
        · obtain rfl : j = m := by omega
          have HO1 := Lib.hid ((HO.out.below hBi).alloc (.cells #[.slice A' j c'] 35))
          have HI1 := Lib.hid ((HI.out.lower hz).alloc (.cells #[.slice A' j c'] 35))
          have HAp := Lib.hid (later_apart HO.out HI.out)
          have hB1 : Below w.heap.size w wr := hB.trans (hBi.mono hz)
          have hz1 := hB1.size
          go_wp2_with (at_builtin
                       refine wpM_append rfl _ _ rfl w.heap.size _ _ _ R (sqTo f j k) A' j c' (rowTo f k j) wr.heap.size rfl rfl (length_sqTo f j k) (length_rowTo f k j) HO1.out HI1.out HAp.out (World.cell?_alloc_at _ _ _ _ rfl) (by omega) (by simp; omega) ?_
                       intro A2 c2 R2 w2 ho2 hg2 ha2)
          have hB2 : Below w.heap.size w w2 := (hB1.alloc hz1 _).trans (below_blkM HO1.out hg2 (Nat.le_refl _) (by simp; omega))
          have HO2 := Lib.hid ho2
          have HS := Lib.hid (sqTo_succ f j k)
          clear ho2 hg2 ha2
          go_wp2
          go_roundw
          case rel => exact ⟨k + 1, A2, c2, R2, by omega, by go_num, rfl, by rw [HS.out]; exact HO2.out, hB2⟩
          case measure => simp [intOf]; omega
    · obtain rfl : k = m := by omega
      have HL := Lib.hid (length_sqTo f k k)
      go_wp2
      go_ret
      exact ⟨⟨A, k, c, R, rfl, HL.out, HO.out⟩, hB⟩
end Go.Proofs.YtmmkmkbpgcbehaaGreat

/-
  Squares as functions of two places, stores into them, empty literals, append of a whole list; the reference's l00Own and l17Own. Conditions: those of each theorem.
-/
namespace Go.Proofs.YtmmkmkbpgcbehaaGreat
open Go.RowKit
set_option linter.unusedVariables false
set_option linter.unusedSimpArgs false

theorem OwnI.lit0 (w : World) {lo : Nat} (h : lo ≤ w.heap.size) : OwnI (w.alloc (.cells #[] 2)) lo (some ⟨w.heap.size, 0, none⟩) 0 [] :=
  World.ownsRow_lit (e := 2) (size := 1) w #[] 0 h (by unfold maxLen; omega) rfl
theorem OwnM.lit0 (w : World) {lo : Nat} (h : lo ≤ w.heap.size) (R : Spine) : OwnM (w.alloc (.cells #[] 35)) lo (some ⟨w.heap.size, 0, none⟩) 0 R [] :=
  ⟨World.ownsRow_lit (e := 35) (size := 1) w #[] 0 h (by unfold maxLen; omega) rfl, fun _ h => absurd h (by simp), fun _ _ _ h => absurd h (by simp)⟩

section
variable {ops : Array Oper} {rest : List Oper} {o : Oper} {a : Act} {Q : Exit → Act → World → Prop}
/-- append of all of a list that reads. -/
theorem wpI_appendL {w : World} (hgd : o.guard = none) (s x : Operand) (ho : o.op = .call { callee := .builtin .append, args := #[s, x], argTypes := #[35, 35] })
    (lo : Nat) (A : Option Addr) (c n : Nat) (xs : List Int) (B : Option Addr) (m d : Nat) (ys : List Int) (hs : a.eval s = .slice A n c) (hx : a.eval x = .slice B m d)
    (hn : xs.length = n) (hm : ys.length = m) (hown : OwnI w lo A c xs) (hr : RdI w B d ys) (hd : B = none → d = 0) (hlen : n + m ≤ 17592186044416) (hlo : lo ≤ w.heap.size)
    (h : ∀ A' c' w', OwnI w' lo A' c' (xs ++ ys) → w.grownBy w' (blk A) → (blk A' = blk A ∨ blk A' = some w.heap.size) → wpList Tryz.prog ops Q rest (a.put o.dst (.slice A' (n + m) c')) w') :
    wpList Tryz.prog ops Q (o :: rest) a w := by
  obtain ⟨i, hi, hz, hz1, hz2⟩ := info_parts infoI
  subst hn hm
  rcases B with _ | ad
  · have h0 : ys = [] := by
      rcases hy : ys with _ | ⟨y, t⟩
      · rfl
      · obtain ⟨b, off, e, _⟩ := hr.at_ 0 (by rw [hy]; simp)
        cases e
    subst h0
    have := hd rfl
    subst this
    refine wpList_append_own_none hgd s x 35 ho lo 2 i 1 Tryz.underlying35 hi _ _ _ hs hown hx ?_
    have := h A c w (by rw [List.append_nil]; exact hown) (World.grownBy.refl w _) (.inl rfl)
    exact this
  · refine wpList_append_own_at w hgd s x 35 ho lo 2 i _ 1 8 Tryz.underlying35 hi hz hz1 hz2 rfl (by decide) _ _ _ hs hown ad ys.length d (ys.map (Value.int .i64)) hx (by simp) ?_ ?_ ?_ ?_ hlo ?_
    · intro j u hj
      have hjl : j < ys.length := by
        rcases Nat.lt_or_ge j ys.length with h1 | h1
        · exact h1
        · rw [List.getElem?_eq_none (by simpa using h1)] at hj; cases hj
      obtain ⟨b, off, e, _, hc⟩ := hr.at_ j hjl
      have e' : ad = ⟨b, off, none⟩ := Option.some.inj e
      have hadd : (⟨b, off, none⟩ : Addr).add j = ⟨b, off + j, none⟩ := by unfold Addr.add; split <;> simp_all
      rw [e', hadd, hc]
      rw [← hj]
      simp [nth_some hjl]
    · intro u hu
      obtain ⟨y, _, rfl⟩ := List.mem_map.1 hu
      rfl
    · unfold maxLen; omega
    · omega
    · intro v' w' h2 h3 _ h5
      obtain ⟨A', c', rfl⟩ := slice_of_own h2
      rw [ownBlock_slice] at h3 h5
      rw [ownBlock_slice] at h5
      refine h A' c' w' ?_ h3 h5
      unfold OwnI
      rw [List.length_append, List.map_append]
      exact h2
end

/-- A slice value that reads: nil has no capacity. -/
theorem OwnI.nil_cap {w : World} {lo : Nat} {A : Option Addr} {c : Nat} {xs : List Int} (h : OwnI w lo A c xs) : A = none → c = 0 := by
  intro e
  rcases h.form with ⟨_, hc, _⟩ | ⟨g, e', _⟩
  · exact hc
  · rw [e] at e'; cases e'

set_option maxHeartbeats 400000 in
theorem l00Own_c (w : World) (A : Option Addr) (n c : Nat) (xs : List Int) (hr : RdI w A c xs) (hn : xs.length = n) (hd : A = none → c = 0) (hz : n ≤ 1048576) :
    Calls Tryz.prog 62 #[.slice A n c] w (PostS w xs) := by
  have H0 := Lib.hid (OwnI.lit0 w (Nat.le_refl w.heap.size))
  have HR := Lib.hid (hr.below ((Below.refl w.heap.size w).alloc (Nat.le_refl _) (.cells #[] 2)))
  have HN := Lib.hid hn
  have HD := Lib.hid hd
  clear hr hn hd
  go_enter Tryz.func62, Tryz.ntmps62
  go_wp2_with (at_builtin
               refine wpI_appendL rfl _ _ rfl w.heap.size _ _ 0 [] A n c xs rfl rfl rfl HN.out H0.out HR.out HD.out (by omega) (by simp) ?_
               intro A' c' w' ho hg ha)
  have HO := Lib.hid ho
  have hB : Below w.heap.size w w' := ((Below.refl _ _).alloc (Nat.le_refl _) _).trans (below_blk H0.out hg (Nat.le_refl _) (by simp))
  clear ho hg ha
  go_wp2
  go_ret
  exact ⟨⟨A', _, c', rfl, by rw [HN.out], HO.out⟩, hB⟩

/-- Each row's nil has no capacity. -/
def NilCap (R : Spine) (n : Nat) : Prop := ∀ k, k < n → (R k).1 = none → (R k).2 = 0
theorem OwnM.nilCap {w : World} {lo : Nat} {A : Option Addr} {c : Nat} {R : Spine} {xss : List (List Int)} (h : OwnM w lo A c R xss) : NilCap R xss.length :=
  fun k hk => (h.rows k hk).nil_cap
/-- Where every row holds something there is no nil. -/
theorem nilCap_of_rows {w : World} {A : Option Addr} {c : Nat} {R : Spine} {xss : List (List Int)} (h : RdM w A c R xss) (hp : ∀ k, k < xss.length → 0 < (row xss k).length) : NilCap R xss.length := fun k hk e => by
  obtain ⟨b, off, e', _⟩ := (h.rows k hk).at_ 0 (hp k hk)
  rw [e] at e'
  cases e'

theorem OwnM.drew {w : World} {lo : Nat} {A : Option Addr} {c : Nat} {R : Spine} {xss : List (List Int)} (h : OwnM w lo A c R xss) : OwnM w.drew lo A c R xss := ⟨h.own, h.rows, h.apart⟩

/-! ### Squares as functions -/

def upd (f : Nat → Nat → Int) (i j : Nat) (v : Int) : Nat → Nat → Int := fun x y => if x = i ∧ y = j then v else f x y
theorem sqTo_congr {f g : Nat → Nat → Int} {m k : Nat} (h : ∀ x y, x < k → y < m → f x y = g x y) : sqTo f m k = sqTo g m k := by
  unfold sqTo
  refine List.map_congr_left fun x hx => ?_
  unfold rowTo
  exact List.map_congr_left fun y hy => h x y (List.mem_range.1 hx) (List.mem_range.1 hy)
/-- A list of k rows of m numbers, as a function. -/
theorem sq_of {h : List (List Int)} {m k : Nat} (hk : h.length = k) (hm : ∀ x, x < k → (row h x).length = m) : h = sqTo (fun x y => nth (row h x) y) m k := by
  apply List.ext_getElem
  · rw [hk, length_sqTo]
  · intro x h1 h2
    have hx : x < k := by omega
    have e1 : h[x] = row h x := (row_eq h1).symm
    have e2 : (sqTo (fun x y => nth (row h x) y) m k)[x] = rowTo (fun x y => nth (row h x) y) x m := by rw [← row_eq h2, row_sqTo hx]
    rw [e1, e2]
    apply List.ext_getElem
    · rw [hm x hx, length_rowTo]
    · intro y h3 h4
      rw [← nth_eq h3, ← nth_eq h4, nth_rowTo (by rw [length_rowTo] at h4; exact h4)]
theorem sqTo_set {f : Nat → Nat → Int} {m k i j : Nat} {v : Int} (hi : i < k) (hj : j < m) :
    (sqTo f m k).set i ((row (sqTo f m k) i).set j v) = sqTo (upd f i j v) m k := by
  rw [row_sqTo hi]
  apply List.ext_getElem
  · simp [length_sqTo]
  · intro x h1 h2
    have hx : x < k := by rw [length_sqTo] at h2; exact h2
    have e2 : (sqTo (upd f i j v) m k)[x] = rowTo (upd f i j v) x m := by rw [← row_eq h2, row_sqTo hx]
    rw [List.getElem_set, e2]
    by_cases e : i = x
    · subst e
      rw [if_pos rfl]
      apply List.ext_getElem
      · simp [length_rowTo]
      · intro y h3 h4
        have hy : y < m := by rw [length_rowTo] at h4; exact h4
        rw [List.getElem_set, ← nth_eq h4, nth_rowTo hy]
        unfold upd
        by_cases e' : j = y
        · subst e'; simp
        · rw [if_neg e', if_neg (fun h => e' h.2.symm)]
          rw [← nth_eq (by rw [length_rowTo]; exact hy), nth_rowTo hy]
    · rw [if_neg e]
      have : (sqTo f m k)[x]'(by rw [length_sqTo]; exact hx) = rowTo f x m := by rw [← row_eq (by rw [length_sqTo]; exact hx), row_sqTo hx]
      rw [this]
      unfold rowTo
      exact List.map_congr_left fun y _ => by unfold upd; rw [if_neg (fun h => e h.1.symm)]

/-- What is known of the place (i, j) of an owned square, and what a store there leaves. -/
theorem OwnM.sq_at {w : World} {lo : Nat} {A : Option Addr} {c : Nat} {R : Spine} {f : Nat → Nat → Int} {m k i j : Nat} (h : OwnM w lo A c R (sqTo f m k)) (hi : i < k) (hj : j < m) :
    ∃ g g' C, A = some ⟨g, 0, none⟩ ∧ w.cell? ⟨g, i, none⟩ = some (.slice (some ⟨g', 0, none⟩) m C) ∧ w.cell? ⟨g', j, none⟩ = some (.int .i64 (f i j)) ∧ w.frozen? ⟨g', j, none⟩ = false ∧
      lo ≤ g' ∧ g' < w.heap.size ∧ ∀ v, OwnM (w.setCell ⟨g', j, none⟩ (.int .i64 v)) lo A c R (sqTo (upd f i j v) m k) := by
  have hi' : i < (sqTo f m k).length := by rw [length_sqTo]; exact hi
  obtain ⟨g, e, _, _, hc, _⟩ := h.at_ hi'
  have hrow := h.rows i hi'
  rw [row_sqTo hi] at hrow hc
  rw [length_rowTo] at hc
  obtain ⟨g', e', hl, hlt, hcj, hf⟩ := hrow.at_ (k := j) (by rw [length_rowTo]; exact hj)
  rw [nth_rowTo hj] at hcj
  refine ⟨g, g', (R i).2, e, by rw [hc, e'], hcj, hf, hl, hlt, fun v => ?_⟩
  rw [← sqTo_set hi hj]
  rw [e'] at hrow
  refine h.row_turned hi' (by rw [row_sqTo hi]; simp) ?_ ?_
  · rw [row_sqTo hi, e']
    exact hrow.stored j v
  · rw [e', blk_some]
    exact grownBy_setCell w ⟨g', j, none⟩ (.int .i64 v)
/-- The same of a square that reads. -/
theorem RdM.sq_at {w : World} {A : Option Addr} {c : Nat} {R : Spine} {f : Nat → Nat → Int} {m k i j : Nat} (h : RdM w A c R (sqTo f m k)) (hi : i < k) (hj : j < m) :
    ∃ b off b' off' C, A = some ⟨b, off, none⟩ ∧ b < w.heap.size ∧ w.cell? ⟨b, off + i, none⟩ = some (.slice (some ⟨b', off', none⟩) m C) ∧ b' < w.heap.size ∧ w.cell? ⟨b', off' + j, none⟩ = some (.int .i64 (f i j)) := by
  have hi' : i < (sqTo f m k).length := by rw [length_sqTo]; exact hi
  obtain ⟨b, off, e, hb, hc⟩ := h.at_ i hi'
  have hrow := h.rows i hi'
  rw [row_sqTo hi] at hrow hc
  rw [length_rowTo] at hc
  obtain ⟨b', off', e', hb', hcj⟩ := hrow.at_ j (by rw [length_rowTo]; exact hj)
  rw [nth_rowTo hj] at hcj
  exact ⟨b, off, b', off', (R i).2, e, hb, by rw [hc, e'], hb', hcj⟩
end Go.Proofs.YtmmkmkbpgcbehaaGreat

/-
  Sets of points: l00Rises, l13Set, l13Ok of the reference; ValidSet, isBlock, areBlocks, areBases of the program. Conditions: those of each theorem.
-/
namespace Go.Proofs.YtmmkmkbpgcbehaaGreat
open Go.RowKit
set_option linter.unusedVariables false
set_option linter.unusedSimpArgs false

/-- The first k numbers rise, from lo to hi. -/
def RiseTo (lo hi : Int) (xs : List Int) (k : Nat) : Prop := ∀ j, j < k → (lo ≤ nth xs j ∧ nth xs j ≤ hi) ∧ (0 < j → nth xs (j - 1) < nth xs j)
instance (lo hi : Int) (xs : List Int) (k : Nat) : Decidable (RiseTo lo hi xs k) := by unfold RiseTo; infer_instance
def riseB (lo hi : Int) (xs : List Int) : Bool := decide (RiseTo lo hi xs xs.length)
theorem RiseTo.zero (lo hi : Int) (xs : List Int) : RiseTo lo hi xs 0 := fun j hj => absurd hj (by omega)
theorem RiseTo.next {lo hi : Int} {xs : List Int} {k : Nat} (h : RiseTo lo hi xs k) (h1 : lo ≤ nth xs k ∧ nth xs k ≤ hi) (h2 : 0 < k → nth xs (k - 1) < nth xs k) : RiseTo lo hi xs (k + 1) := fun j hj => by
  by_cases e : j = k
  · subst e; exact ⟨h1, h2⟩
  · exact h j (by omega)

theorem quiet_dr {f : FuncId} {args : Array Value} {w : World} {n : Nat} {v : Value} (h : Calls Tryz.prog f args (w.drewN n) fun e w' => e = .returned v ∧ w.drewN n = w') :
    Calls Tryz.prog f args (w.drewN n) fun e w' => e = .returned v ∧ ∃ m, w' = w.drewN m :=
  h.mono fun _ _ ⟨he, hm⟩ => ⟨he, n, hm.symm⟩
theorem quiet_drN {f : FuncId} {args : Array Value} {w : World} {a n : Nat} {v : Value} (h : Calls Tryz.prog f args (w.drewN (a + n)) fun e w' => e = .returned v ∧ w.drewN (a + n) = w') :
    Calls Tryz.prog f args (w.drewN (a + n)) fun e w' => e = .returned v ∧ ∃ m, w' = w.drewN (a + m) :=
  h.mono fun _ _ ⟨he, hm⟩ => ⟨he, n, hm.symm⟩
theorem quiet_w2 {f : FuncId} {args : Array Value} {w : World} {v : Value} (h : Calls Tryz.prog f args w fun e w' => e = .returned v ∧ w = w') :
    Calls Tryz.prog f args w fun e w' => e = .returned v ∧ ∃ m, w' = w.drewN m :=
  h.mono fun _ _ ⟨he, hm⟩ => ⟨he, 0, hm.symm⟩

set_option maxHeartbeats 1000000 in
theorem rises_c (w : World) (A : Option Addr) (n c : Nat) (xs : List Int) (lo hi : Int) (hr : RdI w A c xs) (hn : xs.length = n) :
    Calls Tryz.prog 89 #[.slice A n c, .int .i64 lo, .int .i64 hi] w (EndQ (.bool (riseB lo hi xs)) w) := by
  have hm : n ≤ 9223372036854775807 := by have h1 := hr.le; have h2 := hr.cap; unfold maxLen at h2; omega
  have HR := Lib.hid hr
  have HN := Lib.hid hn
  obtain ⟨T, hT⟩ : ∃ T, T = riseB lo hi xs := ⟨_, rfl⟩
  rw [← hT]
  have HT := Lib.hid hT
  clear hr hn hT
  go_enter Tryz.func89, Tryz.ntmps89
  go_wp2
  go_loopw [7] (fun i wr => ∃ k : Nat, k ≤ n ∧ i = .int .i64 k ∧ Hid (RiseTo lo hi xs k) ∧ Qt w wr) (fun i _ => n - (intOf i).toNat)
  case atStart => exact ⟨0, Nat.zero_le _, rfl, RiseTo.zero _ _ _, Qt.refl w⟩
  case round =>
    obtain ⟨k, hk, rfl, hP, ⟨m, rfl⟩⟩ := hrel
    by_cases hlt : k < n
    · have hkx : k < xs.length := by rw [HN.out]; exact hlt
      obtain ⟨b, off, rfl, hb, hc⟩ := HR.out.at_ k hkx
      have hcall := in_c (nth xs k) lo hi
      have hi0 : (0 : Int) ≤ (k : Int) := by omega
      have hi1 : (k : Int) < (n : Int) := by omega
      by_cases h1 : lo ≤ nth xs k ∧ nth xs k ≤ hi
      · rw [inB_true.2 h1] at hcall
        have HC := Lib.hid hcall
        have H1 := Lib.hid h1
        by_cases h0 : k = 0
        · have HP := Lib.hid (hP.out.next h1 (by omega))
          subst h0
          simp only [Nat.add_zero] at hc
          clear hcall h1
          go_wp2
          go_quiet ((go_at_call 71; exact quiet_drN (HC.out _)))
          go_wp2
          go_roundw
          case rel => exact ⟨1, by omega, rfl, HP.out, ⟨_, rfl⟩⟩
          case measure => simp [intOf]; omega
        · obtain ⟨b', off', e, _, hc2⟩ := HR.out.at_ (k - 1) (by omega)
          injection e with e
          injection e with e1 e2
          subst e1 e2
          have hk0 : decide (0 < (k : Int)) = true := by simp; omega
          have hk0' : (0 : Int) < (k : Int) := by omega
          have hk1 : 0 < k := by omega
          have hk2 : decide (0 < k) = true := decide_eq_true hk1
          have hsub : IntKind.i64.wrap ((k : Int) - 1) = ((k - 1 : Nat) : Int) := by rw [show (k : Int) - 1 = ((k - 1 : Nat) : Int) by omega]; exact IntWalk.i64_in _ (by omega)
          have hs0 : (0 : Int) ≤ ((k - 1 : Nat) : Int) := by omega
          have hs1 : ((k - 1 : Nat) : Int) < (n : Int) := by omega
          generalize hj : k - 1 = j at hsub hs0 hs1 hc2
          have HJ := Lib.hid hj
          by_cases h2 : nth xs j < nth xs k
          · have HP := Lib.hid (hP.out.next h1 (fun _ => by rw [hj]; exact h2))
            have h2' : decide (nth xs k ≤ nth xs j) = false := by simp; omega
            clear hcall h1 h0 hj
            go_wp2
            go_quiet ((go_at_call 71; exact quiet_drN (HC.out _)))
            clear hsub
            go_wp2
            go_roundw
            case rel => exact ⟨k + 1, by omega, by go_num, HP.out, ⟨_, rfl⟩⟩
            case measure => simp [intOf]; omega
          · have h2' : decide (nth xs k ≤ nth xs j) = true := by simp; omega
            have HF := Lib.hid (show T = false by
              rw [HT.out]
              refine decide_eq_false (fun h => h2 ?_)
              have := (h k hkx).2 (by omega)
              rw [hj] at this
              exact this)
            clear hcall h1 h0 hj
            go_wp2
            go_quiet ((go_at_call 71; exact quiet_drN (HC.out _)))
            clear hsub
            go_wp2
            go_ret
            exact ⟨ret_b HF.out.symm, qt2 _ _ _⟩
      · rw [inB_false.2 h1] at hcall
        have HC := Lib.hid hcall
        have HF := Lib.hid (show T = false by
          rw [HT.out]
          exact decide_eq_false (fun h => h1 (h k hkx).1))
        clear hcall h1
        go_wp2
        go_quiet ((go_at_call 71; exact quiet_drN (HC.out _)))
        go_wp2
        go_ret
        exact ⟨ret_b HF.out.symm, qt2 _ _ _⟩
    · obtain rfl : k = n := by omega
      have HF := Lib.hid (show T = true by
        rw [HT.out]
        exact decide_eq_true (by rw [HN.out]; exact hP.out))
      go_wp2
      go_ret
      exact ⟨ret_b HF.out.symm, m, rfl⟩

/-! ### The program's sets -/

def setB (xs : List Int) (n : Int) : Bool := decide (RiseTo 0 (n - 1) xs xs.length ∧ 0 ≤ n ∧ n ≤ 32)
def lastOf (xs : List Int) (k : Nat) : Int := if k = 0 then -1 else nth xs (k - 1)
theorem lastOf_succ (xs : List Int) (k : Nat) : lastOf xs (k + 1) = nth xs k := by simp [lastOf]

set_option maxHeartbeats 1000000 in
theorem ValidSet_c (w : World) (A : Option Addr) (m c : Nat) (xs : List Int) (n : Int) (hr : RdI w A c xs) (hn : xs.length = m) :
    Calls Tryz.prog 90 #[.slice A m c, .int .i64 n] w fun e w' => e = .returned (.bool (setB xs n)) ∧ w = w' := by
  have hm : m ≤ 9223372036854775807 := by have h1 := hr.le; have h2 := hr.cap; unfold maxLen at h2; omega
  have HR := Lib.hid hr
  have HN := Lib.hid hn
  obtain ⟨T, hT⟩ : ∃ T, T = setB xs n := ⟨_, rfl⟩
  rw [← hT]
  have HT := Lib.hid hT
  clear hr hn hT
  go_enter Tryz.func90, Tryz.ntmps90
  go_wp2
  go_loop [5, 10] (fun l i => ∃ (k : Nat) (L : Int), k ≤ m ∧ i = .int .i64 k ∧ l = .int .i64 L ∧ Hid (L = lastOf xs k) ∧ Hid (RiseTo 0 (n - 1) xs k)) (fun _ i => m - (intOf i).toNat)
  case atStart => exact ⟨0, -1, Nat.zero_le _, rfl, rfl, rfl, RiseTo.zero _ _ _⟩
  case round =>
    obtain ⟨k, L, hk, rfl, rfl, hL, hP⟩ := hrel
    by_cases hlt : k < m
    · have hkx : k < xs.length := by rw [HN.out]; exact hlt
      obtain ⟨b, off, rfl, hb, hc⟩ := HR.out.at_ k hkx
      have hlow : -1 ≤ L := by
        rw [hL.out]
        unfold lastOf
        split
        · omega
        · have := (hP.out (k - 1) (by omega)).1.1; omega
      by_cases h1 : nth xs k ≤ L
      · have HF := Lib.hid (show T = false by
          rw [HT.out]
          refine decide_eq_false (fun h => ?_)
          have h2 := h.1 k hkx
          rw [hL.out] at h1
          unfold lastOf at h1
          split at h1
          · omega
          · have := h2.2 (by omega); omega)
        go_wp2
        go_ret
        exact ⟨ret_b HF.out.symm, rfl⟩
      · have h1' : L < nth xs k := by omega
        by_cases h2 : n ≤ nth xs k
        · have HF := Lib.hid (show T = false by
            rw [HT.out]
            exact decide_eq_false (fun h => by have := (h.1 k hkx).1.2; omega))
          clear h1
          go_wp2
          go_ret
          exact ⟨ret_b HF.out.symm, rfl⟩
        · have h2' : nth xs k < n := by omega
          have HP := Lib.hid (hP.out.next ⟨by omega, by omega⟩ (fun h0 => by
            have h3 := h1'
            rw [hL.out] at h3
            unfold lastOf at h3
            rw [if_neg (by omega)] at h3
            exact h3))
          clear h1 h2
          go_wp2
          go_round
          case rel => exact ⟨k + 1, _, by omega, by go_num, rfl, by show _ = _; rw [lastOf_succ], HP.out⟩
          case measure => simp [intOf]; omega
    · obtain rfl : k = m := by omega
      have hw := within_c n 0 32
      have HW := Lib.hid hw
      have HF := Lib.hid (show inB n 0 32 = T by
        rw [HT.out]
        unfold inB setB
        refine decide_eq_decide.2 ⟨fun h => ⟨by rw [HN.out]; exact hP.out, h⟩, fun h => h.2⟩)
      clear hw
      go_wp2_with fail
      refine (HW.out _).mono ?_
      rintro e w' ⟨rfl, rfl⟩
      go_wp2
      go_ret
      exact ⟨ret_b HF.out, rfl⟩

def blockB (xs : List Int) (n : Int) : Bool := decide (0 < xs.length) && setB xs n
set_option maxHeartbeats 400000 in
theorem isBlock_c (w : World) (A : Option Addr) (m c : Nat) (xs : List Int) (n : Int) (hr : RdI w A c xs) (hn : xs.length = m) :
    Calls Tryz.prog 94 #[.slice A m c, .int .i64 n] w fun e w' => e = .returned (.bool (blockB xs n)) ∧ w = w' := by
  have HV := Lib.hid (ValidSet_c w A m c xs n hr hn)
  by_cases h0 : 0 < m
  · have h0' : (0 : Int) < (m : Int) := by omega
    rw [show blockB xs n = setB xs n by simp [blockB, hn, h0]]
    clear hr hn
    go_enter Tryz.func94, Tryz.ntmps94
    go_wp2_with fail
    refine (HV.out).mono ?_
    rintro e w' ⟨rfl, rfl⟩
    go_wp2
    go_ret
    exact ⟨rfl, rfl⟩
  · obtain rfl : m = 0 := by omega
    rw [show blockB xs n = false by simp [blockB, hn]]
    clear hr hn h0
    go_enter Tryz.func94, Tryz.ntmps94
    go_wp2
    go_ret
    exact ⟨rfl, rfl⟩

/-- The literal of areBlocks: no block. -/
theorem notBlock_c (W : World) (B : Nat) (A : Option Addr) (m c : Nat) (xs : List Int) (n : Int) (hr : RdI W A c xs) (hn : xs.length = m) (hcell : W.cell? ⟨B, 0, none⟩ = some (.int .i64 n)) :
    Calls Tryz.prog 93 #[.slice A m c, .pointer (some ⟨B, 0, none⟩)] W (PostV W (.bool (!blockB xs n))) := by
  have HV := Lib.hid (isBlock_c W A m c xs n hr hn)
  clear hr hn
  go_enter Tryz.func93, Tryz.ntmps93
  go_wp2_with fail
  refine (HV.out).mono ?_
  rintro e w' ⟨rfl, rfl⟩
  go_wp2
  go_ret
  exact ⟨rfl, Below.refl _ _⟩

def BlocksOk (xss : List (List Int)) (n : Int) : Prop := (1 ≤ n ∧ n ≤ 32) ∧ ∀ k, k < xss.length → blockB (row xss k) n = true
instance (xss : List (List Int)) (n : Int) : Decidable (BlocksOk xss n) := by unfold BlocksOk; infer_instance
def blocksB (xss : List (List Int)) (n : Int) : Bool := decide (BlocksOk xss n)

set_option maxHeartbeats 1000000 in
theorem areBlocks_c (w : World) (A : Option Addr) (m c : Nat) (R : Spine) (xss : List (List Int)) (n : Int) (hr : RdM w A c R xss) (hn : xss.length = m) :
    Calls Tryz.prog 77 #[.slice A m c, .int .i64 n] w (PostV w (.bool (blocksB xss n))) := by
  have hB0 : Below w.heap.size w (w.alloc (.cells #[.int .i64 n] 2)) := (Below.refl _ _).alloc (Nat.le_refl _) _
  have hmf : ∀ (fn : Fn) (first cap : Array Value) (w : World), (Instr.makeFunc fn first cap).run Tryz.prog w = .ok (.func fn first cap) w := fun _ _ _ _ => rfl
  have hw := within_c n 1 32
  by_cases h1 : 1 ≤ n ∧ n ≤ 32
  · rw [inB_true.2 h1] at hw
    have HW := Lib.hid hw
    have HX := Lib.hid (show (w.alloc (.cells #[.int .i64 n] 2)).cell? ⟨w.heap.size, 0, none⟩ = some (.int .i64 n) from World.cell?_alloc_at _ _ _ _ rfl)
    have hrb := hr.below hB0
    have eg := enters_of Tryz.func93 (by kernel_rfl) rfl
    have HC := Lib.hid (containsFuncM (w.alloc (.cells #[.int .i64 n] 2)) A m c R xss 93 #[.pointer (some ⟨w.heap.size, 0, none⟩)] (fun k => !blockB (row xss k) n) eg hrb hn (fun W k hk hBW =>
      notBlock_c W w.heap.size _ _ _ (row xss k) n ((hrb.rows k (by omega)).keep hBW.size fun _ hp => hBW.cell hp) rfl ((hBW.cell (p := ⟨w.heap.size, 0, none⟩) (by simp)).trans HX.out)))
    have HF := Lib.hid (show blocksB xss n = !anyTo (fun k => !blockB (row xss k) n) m by
      rcases ha : anyTo (fun k => !blockB (row xss k) n) m with _ | _
      · refine decide_eq_true ⟨h1, fun k hk => ?_⟩
        have := (anyTo_false.1 ha) k (by omega)
        simpa using this
      · obtain ⟨k, hk, hb⟩ := anyTo_true.1 ha
        refine decide_eq_false (fun h => ?_)
        have := h.2 k (by omega)
        rw [this] at hb
        cases hb)
    rw [HF.out]
    generalize anyTo (fun k => !blockB (row xss k) n) m = q at *
    clear hw hr hn hrb eg HF HX
    go_enter Tryz.func77, Tryz.ntmps77
    go_wp2_with fail
    refine (HW.out _).mono ?_
    rintro e w' ⟨rfl, rfl⟩
    go_wp2_with fail
    refine (HC.out).mono ?_
    rintro e w2 ⟨rfl, hb2⟩
    have hB := hB0.trans (hb2.mono (by simp))
    go_wp2
    go_ret
    exact ⟨rfl, hB⟩
  · rw [inB_false.2 h1] at hw
    have HW := Lib.hid hw
    rw [show blocksB xss n = false from decide_eq_false (fun h => h1 h.1)]
    clear hw hr hn h1
    go_enter Tryz.func77, Tryz.ntmps77
    go_wp2_with fail
    refine (HW.out _).mono ?_
    rintro e w' ⟨rfl, rfl⟩
    go_wp2
    go_ret
    exact ⟨rfl, hB0⟩
end Go.Proofs.YtmmkmkbpgcbehaaGreat

/-
  Lists of numbers compared: CompareLists of the reference, slices.Compare and cmp.Compare of the library. Conditions: those of each theorem.
-/
namespace Go.Proofs.YtmmkmkbpgcbehaaGreat
open Go.RowKit
set_option linter.unusedVariables false
set_option linter.unusedSimpArgs false

/-- The order of the dictionary: -1, 0 or 1. -/
def cmpL : List Int → List Int → Int
  | [], [] => 0
  | [], _ :: _ => -1
  | _ :: _, [] => 1
  | a :: l, b :: m => if a < b then -1 else if b < a then 1 else cmpL l m

theorem cmpL_bd (a b : List Int) : -1 ≤ cmpL a b ∧ cmpL a b ≤ 1 := by
  induction a generalizing b with
  | nil => cases b <;> simp [cmpL]
  | cons x xs ih =>
    cases b with
    | nil => simp [cmpL]
    | cons y ys =>
      simp only [cmpL]
      split
      · omega
      · split
        · omega
        · exact ih ys
theorem cmpL_self (a : List Int) : cmpL a a = 0 := by
  induction a with
  | nil => rfl
  | cons x xs ih => simp [cmpL, ih]
theorem cmpL_zero {a b : List Int} (h : cmpL a b = 0) : a = b := by
  induction a generalizing b with
  | nil => cases b with
    | nil => rfl
    | cons y ys => simp [cmpL] at h
  | cons x xs ih =>
    cases b with
    | nil => simp [cmpL] at h
    | cons y ys =>
      simp only [cmpL] at h
      split at h
      · omega
      · split at h
        · omega
        · rw [ih h]; congr 1; omega
theorem cmpL_neg (a b : List Int) : cmpL a b = -cmpL b a := by
  induction a generalizing b with
  | nil => cases b <;> simp [cmpL]
  | cons x xs ih =>
    cases b with
    | nil => simp [cmpL]
    | cons y ys =>
      simp only [cmpL]
      by_cases h1 : x < y
      · rw [if_pos h1, if_neg (by omega), if_pos h1]
      · by_cases h2 : y < x
        · rw [if_neg h1, if_pos h2, if_pos h2]; rfl
        · rw [if_neg h1, if_neg h2, if_neg h2, if_neg h1]; exact ih ys
theorem cmpL_trans {a b c : List Int} (h1 : cmpL a b ≤ 0) (h2 : cmpL b c ≤ 0) : cmpL a c ≤ 0 := by
  induction a generalizing b c with
  | nil => cases c <;> simp [cmpL]
  | cons x xs ih =>
    cases b with
    | nil => simp [cmpL] at h1
    | cons y ys =>
      cases c with
      | nil => simp [cmpL] at h2
      | cons z zs =>
        simp only [cmpL] at h1 h2 ⊢
        by_cases e1 : x < y
        · by_cases e2 : z < y
          · rw [if_neg (by omega), if_pos e2] at h2; omega
          · rw [if_pos (by omega)]; omega
        · rw [if_neg e1] at h1
          by_cases e3 : y < x
          · rw [if_pos e3] at h1; omega
          · rw [if_neg e3] at h1
            obtain rfl : x = y := by omega
            by_cases e4 : x < z
            · rw [if_pos e4]; omega
            · rw [if_neg e4] at h2 ⊢
              by_cases e5 : z < x
              · rw [if_pos e5] at h2; omega
              · rw [if_neg e5] at h2 ⊢
                exact ih h1 h2
theorem drop_nth {xs : List Int} {k : Nat} (h : k < xs.length) : xs.drop k = nth xs k :: xs.drop (k + 1) := by
  rw [List.drop_eq_getElem_cons h, nth_eq h]
theorem cmpL_drop {xs ys : List Int} {k : Nat} (h1 : k < xs.length) (h2 : k < ys.length) :
    cmpL (xs.drop k) (ys.drop k) = if nth xs k < nth ys k then -1 else if nth ys k < nth xs k then 1 else cmpL (xs.drop (k + 1)) (ys.drop (k + 1)) := by
  rw [drop_nth h1, drop_nth h2]; rfl
theorem cmpL_end {xs ys : List Int} {k : Nat} (h : xs.length ≤ k ∨ ys.length ≤ k) (hk1 : k ≤ xs.length) (hk2 : k ≤ ys.length) :
    cmpL (xs.drop k) (ys.drop k) = if xs.length < ys.length then -1 else if ys.length < xs.length then 1 else 0 := by
  rcases Nat.lt_trichotomy xs.length ys.length with e | e | e
  · rw [if_pos e, (List.drop_eq_nil_of_le (by omega) : xs.drop k = []), drop_nth (xs := ys) (by omega)]; rfl
  · rw [if_neg (by omega), if_neg (by omega), (List.drop_eq_nil_of_le (by omega) : xs.drop k = []), (List.drop_eq_nil_of_le (by omega) : ys.drop k = [])]; rfl
  · rw [if_neg (by omega), if_pos e, (List.drop_eq_nil_of_le (by omega) : ys.drop k = []), drop_nth (xs := xs) (by omega)]; rfl

set_option maxHeartbeats 1000000 in
theorem CompareLists_c (w : World) (A B : Option Addr) (n m c d : Nat) (xs ys : List Int) (hx : RdI w A c xs) (hn : xs.length = n) (hy : RdI w B d ys) (hm : ys.length = m) :
    Calls Tryz.prog 60 #[.slice A n c, .slice B m d] w (EndQ (.int .i64 (cmpL xs ys)) w) := by
  have hn' : n ≤ 9223372036854775807 := by have h1 := hx.le; have h2 := hx.cap; unfold maxLen at h2; omega
  have hm' : m ≤ 9223372036854775807 := by have h1 := hy.le; have h2 := hy.cap; unfold maxLen at h2; omega
  have HX := Lib.hid hx
  have HY := Lib.hid hy
  have HN := Lib.hid hn
  have HM := Lib.hid hm
  clear hx hy hn hm
  obtain ⟨T, hT⟩ : ∃ T, T = cmpL xs ys := ⟨_, rfl⟩
  rw [← hT]
  have HT := Lib.hid hT
  clear hT
  go_enter Tryz.func60, Tryz.ntmps60
  go_wp2
  go_loopw [5] (fun i wr => ∃ k : Nat, k ≤ n ∧ k ≤ m ∧ i = .int .i64 k ∧ Hid (T = cmpL (xs.drop k) (ys.drop k)) ∧ Qt w wr) (fun i _ => n - (intOf i).toNat)
  case atStart => exact ⟨0, Nat.zero_le _, Nat.zero_le _, rfl, HT, Qt.refl w⟩
  case round =>
    obtain ⟨k, hk, hk2, rfl, hC, ⟨q, rfl⟩⟩ := hrel
    by_cases hlt : k < n
    · by_cases hlt2 : k < m
      · obtain ⟨b, off, rfl, hb, hc⟩ := HX.out.at_ k (by rw [HN.out]; exact hlt)
        obtain ⟨b', off', rfl, hb', hc'⟩ := HY.out.at_ k (by rw [HM.out]; exact hlt2)
        have hi0 : (0 : Int) ≤ (k : Int) := by omega
        have hi1 : (k : Int) < (n : Int) := by omega
        have hi2 : (k : Int) < (m : Int) := by omega
        have HD := Lib.hid (hC.out.trans (cmpL_drop (xs := xs) (ys := ys) (k := k) (by rw [HN.out]; exact hlt) (by rw [HM.out]; exact hlt2)))
        obtain ⟨x, hx⟩ : ∃ x, x = nth xs k := ⟨_, rfl⟩
        obtain ⟨y, hy⟩ : ∃ y, y = nth ys k := ⟨_, rfl⟩
        rw [← hx] at hc HD
        rw [← hy] at hc' HD
        clear hx hy
        by_cases h1 : x < y
        · have HF := Lib.hid (show T = -1 by rw [HD.out, if_pos h1])
          go_wp2
          go_quiet (fail)
          go_wp2
          go_ret
          exact ⟨ret_i HF.out.symm, qt2 _ _ _⟩
        · by_cases h2 : y < x
          · have HF := Lib.hid (show T = 1 by rw [HD.out, if_neg h1, if_pos h2])
            have h1' : decide (x < y) = false := by simp; omega
            go_wp2
            go_quiet (fail)
            go_wp2
            go_quiet (fail)
            go_wp2
            go_ret
            exact ⟨ret_i HF.out.symm, by first | exact qt2 _ _ _ | exact ⟨_, by rw [World.drewN_drewN, World.drewN_drewN]⟩⟩
          · have HF := Lib.hid (show T = cmpL (xs.drop (k + 1)) (ys.drop (k + 1)) by rw [HD.out, if_neg h1, if_neg h2])
            have h1' : decide (x < y) = false := by simp; omega
            have h2' : decide (y < x) = false := by simp; omega
            go_wp2
            go_quiet (fail)
            go_wp2
            go_quiet (fail)
            go_wp2
            go_roundw
            case rel => exact ⟨k + 1, by omega, by omega, by go_num, HF, by first | exact qt2 _ _ _ | exact ⟨_, by rw [World.drewN_drewN, World.drewN_drewN]⟩ | exact ⟨_, rfl⟩⟩
            case measure => simp [intOf]; omega
      · obtain rfl : k = m := by omega
        have HF := Lib.hid (show T = 1 by rw [hC.out, cmpL_end (.inr (by rw [HM.out]; omega)) (by rw [HN.out]; omega) (by rw [HM.out]; omega), HN.out, HM.out, if_neg (by omega), if_pos hlt])
        go_wp2
        go_ret
        exact ⟨ret_i HF.out.symm, q, rfl⟩
    · obtain rfl : k = n := by omega
      by_cases h1 : k < m
      · have HF := Lib.hid (show T = -1 by rw [hC.out, cmpL_end (.inl (by rw [HN.out]; omega)) (by rw [HN.out]; omega) (by rw [HM.out]; omega), HN.out, HM.out, if_pos h1])
        go_wp2
        go_ret
        exact ⟨ret_i HF.out.symm, q, rfl⟩
      · obtain rfl : k = m := by omega
        have HF := Lib.hid (show T = 0 by rw [hC.out, cmpL_end (.inl (by rw [HN.out]; omega)) (by rw [HN.out]; omega) (by rw [HM.out]; omega), HN.out, HM.out, if_neg h1, if_neg h1])
        go_wp2
        go_ret
        exact ⟨ret_i HF.out.symm, q, rfl⟩

/-! ### The library's -/

theorem isNaN_c (x : Int) (w : World) : Calls Tryz.prog 116 #[.int .i64 x] w fun e w' => e = .returned (.bool false) ∧ w = w' := by
  have h : (x != x) = false := by simp
  go_enter Tryz.func116, Tryz.ntmps116
  go_wp2
  go_ret
  exact ⟨rfl, rfl⟩
def cmpI (x y : Int) : Int := if x < y then -1 else if y < x then 1 else 0
set_option maxHeartbeats 400000 in
theorem cmpI_c (x y : Int) (w : World) : Calls Tryz.prog 88 #[.int .i64 x, .int .i64 y] w fun e w' => e = .returned (.int .i64 (cmpI x y)) ∧ w = w' := by
  by_cases h1 : x < y
  · rw [show cmpI x y = -1 by simp [cmpI, h1]]
    go_enter Tryz.func88, Tryz.ntmps88
    go_wp2_with (go_at_call 116; refine (isNaN_c _ _).mono ?_; rintro e w' ⟨rfl, rfl⟩)
    go_ret
    exact ⟨rfl, rfl⟩
  · by_cases h2 : y < x
    · rw [show cmpI x y = 1 by simp [cmpI, h1, h2]]
      go_enter Tryz.func88, Tryz.ntmps88
      go_wp2_with (go_at_call 116; refine (isNaN_c _ _).mono ?_; rintro e w' ⟨rfl, rfl⟩)
      go_ret
      exact ⟨rfl, rfl⟩
    · rw [show cmpI x y = 0 by simp [cmpI, h1, h2]]
      go_enter Tryz.func88, Tryz.ntmps88
      go_wp2_with (go_at_call 116; refine (isNaN_c _ _).mono ?_; rintro e w' ⟨rfl, rfl⟩)
      go_ret
      exact ⟨rfl, rfl⟩

set_option maxHeartbeats 1000000 in
theorem Compare_c (w : World) (A B : Option Addr) (n m c d : Nat) (xs ys : List Int) (hx : RdI w A c xs) (hn : xs.length = n) (hy : RdI w B d ys) (hm : ys.length = m) :
    Calls Tryz.prog 58 #[.slice A n c, .slice B m d] w fun e w' => e = .returned (.int .i64 (cmpL xs ys)) ∧ w = w' := by
  have hn' : n ≤ 9223372036854775807 := by have h1 := hx.le; have h2 := hx.cap; unfold maxLen at h2; omega
  have hm' : m ≤ 9223372036854775807 := by have h1 := hy.le; have h2 := hy.cap; unfold maxLen at h2; omega
  have HX := Lib.hid hx
  have HY := Lib.hid hy
  have HN := Lib.hid hn
  have HM := Lib.hid hm
  clear hx hy hn hm
  obtain ⟨T, hT⟩ : ∃ T, T = cmpL xs ys := ⟨_, rfl⟩
  rw [← hT]
  have HT := Lib.hid hT
  clear hT
  go_enter Tryz.func58, Tryz.ntmps58
  go_wp2
  go_loop [11] (fun i => ∃ k : Nat, k ≤ n ∧ k ≤ m ∧ i = .int .i64 k ∧ Hid (T = cmpL (xs.drop k) (ys.drop k))) (fun i => n - (intOf i).toNat)
  case atStart => exact ⟨0, Nat.zero_le _, Nat.zero_le _, rfl, HT⟩
  case round =>
    obtain ⟨k, hk, hk2, rfl, hC⟩ := hrel
    by_cases hlt : k < n
    · obtain ⟨b, off, rfl, hb, hc⟩ := HX.out.at_ k (by rw [HN.out]; exact hlt)
      by_cases hlt2 : k < m
      · obtain ⟨b', off', rfl, hb', hc'⟩ := HY.out.at_ k (by rw [HM.out]; exact hlt2)
        have HD := Lib.hid (hC.out.trans (cmpL_drop (xs := xs) (ys := ys) (k := k) (by rw [HN.out]; exact hlt) (by rw [HM.out]; exact hlt2)))
        obtain ⟨x, hx⟩ : ∃ x, x = nth xs k := ⟨_, rfl⟩
        obtain ⟨y, hy⟩ : ∃ y, y = nth ys k := ⟨_, rfl⟩
        rw [← hx] at hc HD
        rw [← hy] at hc' HD
        clear hx hy
        have hcall := cmpI_c x y
        by_cases h1 : x < y
        · have HF := Lib.hid (show T = -1 by rw [HD.out, if_pos h1])
          rw [show cmpI x y = -1 by simp [cmpI, h1]] at hcall
          have HC := Lib.hid hcall
          clear hcall
          go_wp2_with (go_at_call 88; refine (HC.out _).mono ?_; rintro e w' ⟨rfl, rfl⟩)
          go_ret
          exact ⟨ret_i HF.out.symm, rfl⟩
        · by_cases h2 : y < x
          · have HF := Lib.hid (show T = 1 by rw [HD.out, if_neg h1, if_pos h2])
            rw [show cmpI x y = 1 by simp [cmpI, h1, h2]] at hcall
            have HC := Lib.hid hcall
            clear hcall
            go_wp2_with (go_at_call 88; refine (HC.out _).mono ?_; rintro e w' ⟨rfl, rfl⟩)
            go_ret
            exact ⟨ret_i HF.out.symm, rfl⟩
          · have HF := Lib.hid (show T = cmpL (xs.drop (k + 1)) (ys.drop (k + 1)) by rw [HD.out, if_neg h1, if_neg h2])
            rw [show cmpI x y = 0 by simp [cmpI, h1, h2]] at hcall
            have HC := Lib.hid hcall
            clear hcall
            go_wp2_with (go_at_call 88; refine (HC.out _).mono ?_; rintro e w' ⟨rfl, rfl⟩)
            go_round
            case rel => exact ⟨k + 1, by omega, by omega, by go_num, HF⟩
            case measure => simp [intOf]; omega
      · obtain rfl : k = m := by omega
        have HF := Lib.hid (show T = 1 by rw [hC.out, cmpL_end (.inr (by rw [HM.out]; omega)) (by rw [HN.out]; omega) (by rw [HM.out]; omega), HN.out, HM.out, if_neg (by omega), if_pos hlt])
        go_wp2
        go_ret
        exact ⟨ret_i HF.out.symm, rfl⟩
    · obtain rfl : k = n := by omega
      by_cases h1 : k < m
      · have HF := Lib.hid (show T = -1 by rw [hC.out, cmpL_end (.inl (by rw [HN.out]; omega)) (by rw [HN.out]; omega) (by rw [HM.out]; omega), HN.out, HM.out, if_pos h1])
        go_wp2
        go_ret
        exact ⟨ret_i HF.out.symm, rfl⟩
      · obtain rfl : k = m := by omega
        have HF := Lib.hid (show T = 0 by rw [hC.out, cmpL_end (.inl (by rw [HN.out]; omega)) (by rw [HN.out]; omega) (by rw [HM.out]; omega), HN.out, HM.out, if_neg h1, if_neg h1])
        go_wp2
        go_ret
        exact ⟨ret_i HF.out.symm, rfl⟩
end Go.Proofs.YtmmkmkbpgcbehaaGreat

/-
  The laws' helpers over designs: szDesign, eqDesign, markDesign, heldDesign, toDesign. Conditions: those of each theorem.
-/
namespace Go.Proofs.YtmmkmkbpgcbehaaGreat
open Go.RowKit
set_option linter.unusedVariables false
set_option linter.unusedSimpArgs false

theorem below_boxed (w : World) (o : Obj) : Below w.heap.size w (w.alloc o) := (Below.refl _ _).alloc (Nat.le_refl _) _

set_option maxHeartbeats 400000 in
theorem szD_in (w : World) (p : Int) (A : Option Addr) (n c : Nat) (R : Spine) (xss : List (List Int)) (left : Int) (hr : RdM w A c R xss) (hn : xss.length = n) (h0 : (n : Int) + (tot xss : Nat) ≤ left) (h1 : left ≤ 1048576) :
    Calls Tryz.prog 5 #[.agg #[.int .i64 p, .slice A n c], .int .i64 left] w (PostV w (.int .i64 (left - n - (tot xss : Nat)))) := by
  have HC := Lib.hid (fun (w1 : World) (hB : Below w.heap.size w w1) => szSS_in w1 A n c xss left (hn ▸ (hr.below hB).atL) hn h0 h1)
  have h2 : ¬ left - n - (tot xss : Nat) < 0 := by omega
  obtain ⟨q, hq⟩ : ∃ q, q = left - n - (tot xss : Nat) := ⟨_, rfl⟩
  rw [← hq] at h2 HC ⊢
  clear hr hn h0 h1 hq
  go_enter Tryz.func5, Tryz.ntmps5
  go_wp2_with fail
  refine (HC.out _ (below_boxed _ _)).mono ?_
  rintro e w1 ⟨rfl, rfl⟩
  go_wp2
  go_ret
  exact ⟨rfl, below_boxed _ _⟩

set_option maxHeartbeats 400000 in
theorem szD_out (w : World) (p : Int) (A : Option Addr) (n c : Nat) (R : Spine) (xss : List (List Int)) (left : Int) (hr : RdM w A c R xss) (hn : xss.length = n) (h0 : left < (n : Int) + (tot xss : Nat)) (h1 : 0 ≤ left) (h2 : left ≤ 1048576) :
    Calls Tryz.prog 5 #[.agg #[.int .i64 p, .slice A n c], .int .i64 left] w (PostV w (.int .i64 (-1))) := by
  have hm : n ≤ 9223372036854775807 := by have h1 := hr.le; have h2 := hr.cap; unfold maxLen at h2; omega
  have HC := Lib.hid (fun (w1 : World) (hB : Below w.heap.size w w1) => szSS_out w1 A n c xss left (hn ▸ (hr.below hB).atL) hn h0 h1 h2 hm)
  clear hr hn h0 h1 h2 hm
  go_enter Tryz.func5, Tryz.ntmps5
  go_wp2_with fail
  refine (HC.out _ (below_boxed _ _)).mono ?_
  rintro e w1 ⟨rfl, rfl⟩
  go_wp2
  go_ret
  exact ⟨rfl, below_boxed _ _⟩

set_option maxHeartbeats 400000 in
/-- eqDesign: whether both designs are one. -/
theorem eqD (w : World) (p p' : Int) {A A' : Option Addr} {n n' c c' : Nat} {R R' : Spine} {xss yss : List (List Int)} (hx : RdM w A c R xss) (hy : RdM w A' c' R' yss) (hn : xss.length = n) (hn' : yss.length = n') (hb : xss.length ≤ 140737488355328)
    (hb' : ∀ k, k < xss.length → (row xss k).length ≤ 140737488355328) :
    Calls Tryz.prog 10 #[.agg #[.int .i64 p, .slice A n c], .agg #[.int .i64 p', .slice A' n' c']] w (PostV w (.bool (decide (p = p' ∧ xss = yss)))) := by
  by_cases hp : p = p'
  · subst hp
    have HC := Lib.hid (fun (w1 : World) (hB : Below w.heap.size w w1) => eqSS w1 (hx.below hB) (hy.below hB) hn hn' hb hb')
    rw [show decide (p = p ∧ xss = yss) = decide (xss = yss) by simp]
    generalize decide (xss = yss) = q at *
    clear hx hy hn hn' hb hb'
    go_enter Tryz.func10, Tryz.ntmps10
    go_wp2_with fail
    refine (HC.out _ ((below_boxed _ _).alloc (by simp) _)).mono ?_
    rintro e w1 ⟨rfl, k, rfl⟩
    cases q
    all_goals go_wp2
    all_goals go_ret
    all_goals exact ⟨rfl, (((below_boxed _ _).alloc (by simp) _).trans (Qt.below ⟨k, rfl⟩ _))⟩
  · rw [show decide (p = p' ∧ xss = yss) = false by simp [hp]]
    have hd : (p != p') = true := by rw [bne_iff_ne]; exact hp
    clear hx hy hn hn' hb hb'
    go_enter Tryz.func10, Tryz.ntmps10
    go_wp2
    go_ret
    exact ⟨rfl, (below_boxed _ _).alloc (by simp) _⟩

set_option maxHeartbeats 400000 in
theorem heldD_v (w : World) (p : Int) {A : Option Addr} {c n : Nat} {R : Spine} {xss yss : List (List Int)} (k0 : Int) (h : RdM w A c R yss) (hM : Marked k0 n xss yss) (hn : xss.length = n) (h0 : 0 ≤ k0) (hb : k0 + (tot xss : Nat) ≤ 4611686018427387904) :
    Calls Tryz.prog 19 #[.agg #[.int .i64 p, .slice A n c], .int .i64 k0] w (PostV w (.int .i64 (k0 + (tot xss : Nat)))) := by
  have HC := Lib.hid (fun (w1 : World) (hB : Below w.heap.size w w1) => heldSS w1 A c R xss yss n k0 (h.below hB) hM hn h0 hb)
  have h2 : ¬ k0 + (tot xss : Nat) < 0 := by omega
  obtain ⟨q, hq⟩ : ∃ q, q = k0 + ((tot xss : Nat) : Int) := ⟨_, rfl⟩
  rw [← hq] at h2 HC ⊢
  clear h hM hn h0 hb hq
  go_enter Tryz.func19, Tryz.ntmps19
  go_wp2_with fail
  refine (HC.out _ (below_boxed _ _)).mono ?_
  rintro e w1 ⟨rfl, rfl⟩
  go_wp2
  go_ret
  exact ⟨rfl, below_boxed _ _⟩

theorem InM.below {w w' : World} {lo hi : Nat} {A : Option Addr} {c : Nat} {R : Spine} {xss : List (List Int)} (h : InM w lo hi A c R xss) (hb : Below w.heap.size w w') : InM w' lo hi A c R xss :=
  ⟨h.own.below hb, h.top, h.tops⟩
theorem Mid.after {lo hi : Nat} {w w1 w2 : World} (hb : Below w.heap.size w w1) (h : Mid lo hi w1 w2) : Mid lo hi w w2 :=
  ⟨h.os.trans hb.os, h.tape.trans hb.tape, h.output.trans hb.output, Nat.le_trans hb.size h.size, fun k hk ho => (h.block k (Nat.lt_of_lt_of_le hk hb.size) ho).trans (hb.block k hk)⟩

set_option maxHeartbeats 400000 in
theorem markD_v (w : World) (p : Int) {lo hi : Nat} {A : Option Addr} {c n : Nat} {R : Spine} {xss : List (List Int)} (k0 : Int) (h : InM w lo hi A c R xss) (hn : xss.length = n) (h0 : 0 ≤ k0) (hb : k0 + (tot xss : Nat) ≤ 4611686018427387904) :
    Calls Tryz.prog 11 #[.agg #[.int .i64 p, .slice A n c], .int .i64 k0] w fun e w' => e = .returned (.int .i64 (k0 + (tot xss : Nat))) ∧ (∃ yss, InM w' lo hi A c R yss ∧ Marked k0 n xss yss) ∧ Mid lo hi w w' := by
  have HC := Lib.hid (fun (w1 : World) (hB : Below w.heap.size w w1) => markSS_v w1 k0 (h.below hB) hn h0 hb)
  obtain ⟨q, hq⟩ : ∃ q, q = k0 + ((tot xss : Nat) : Int) := ⟨_, rfl⟩
  rw [← hq] at HC ⊢
  clear h hn h0 hb hq
  go_enter Tryz.func11, Tryz.ntmps11
  go_wp2_with fail
  refine (HC.out _ (below_boxed _ _)).mono ?_
  rintro e w1 ⟨rfl, hy, hm⟩
  have HY := Lib.hid hy
  have hm := Mid.after (below_boxed _ _) hm
  clear hy
  go_wp2
  go_ret
  exact ⟨rfl, HY.out, hm⟩

set_option maxHeartbeats 400000 in
/-- toDesign copies the design into new memory. -/
theorem toD (w : World) (p : Int) (A : Option Addr) (n c : Nat) (R : Spine) (xss : List (List Int)) (hx : RdM w A c R xss) (hn : xss.length = n) (hb : n ≤ 4398046511104) (hb2 : ∀ k, k < n → (row xss k).length ≤ 17592186044416) :
    Calls Tryz.prog 7 #[.agg #[.int .i64 p, .slice A n c]] w fun e w' => (∃ A' R', e = .returned (.agg #[.int .i64 p, .slice A' n n]) ∧ OwnM w' w.heap.size A' n R' xss) ∧ Below w.heap.size w w' := by
  have HC := Lib.hid (fun (w1 : World) (hB : Below w.heap.size w w1) => toSS w1 A n c R xss (hx.below hB) hn hb hb2)
  clear hx hn hb hb2
  go_enter Tryz.func7, Tryz.ntmps7
  go_wp2_with fail
  refine (HC.out _ (((below_boxed _ _).alloc (by simp) _).alloc (by simp; omega) _)).mono ?_
  rintro e w1 ⟨⟨A', R', rfl, ho⟩, hb1⟩
  have HO := Lib.hid ho.in_
  have hc0 : w1.cell? ⟨w.heap.size + 1 + 1, 0, none⟩ = some (.int .i64 p) := (hb1.cell (p := ⟨w.heap.size + 1 + 1, 0, none⟩) (by simp)).trans (World.cell?_alloc_at _ _ _ _ (by simp))
  have hc1 : w1.cell? ⟨w.heap.size + 1 + 1, 1, none⟩ = some (.slice none 0 0) := (hb1.cell (p := ⟨w.heap.size + 1 + 1, 1, none⟩) (by simp)).trans (World.cell?_alloc_at _ _ _ _ (by simp))
  have hd0 : w1.cell? ⟨w.heap.size + 1, 0, none⟩ = some (.int .i64 0) := (hb1.cell (p := ⟨w.heap.size + 1, 0, none⟩) (by simp)).trans (by simp [go_sem])
  have hd1 : w1.cell? ⟨w.heap.size + 1, 1, none⟩ = some (.slice none 0 0) := (hb1.cell (p := ⟨w.heap.size + 1, 1, none⟩) (by simp)).trans (by simp [go_sem])
  have hf0 : w1.frozen? ⟨w.heap.size + 1 + 1, 1, none⟩ = false := (hb1.frozen (p := ⟨w.heap.size + 1 + 1, 1, none⟩) (by simp)).trans (by simp [go_sem])
  have hg0 : w1.frozen? ⟨w.heap.size + 1, 0, none⟩ = false := (hb1.frozen (p := ⟨w.heap.size + 1, 0, none⟩) (by simp)).trans (by simp [go_sem])
  have hg1 : w1.frozen? ⟨w.heap.size + 1, 1, none⟩ = false := (hb1.frozen (p := ⟨w.heap.size + 1, 1, none⟩) (by simp)).trans (by simp [go_sem])
  have hs1 := hb1.size
  clear ho
  go_wp2
  refine bodyPost_ret (v := .agg #[.int .i64 p, .slice A' n n]) (by simp [results, Tryz.results7, go_sem, hc0, hc1, hd0, hd1]) rfl ⟨⟨A', R', rfl, ?_⟩, ?_⟩
  · exact (HO.out.step (fun k h1 h2 => by
      simp at h1
      rw [Below.heap_setCell _ _ _ _ (by simp; omega), Below.heap_setCell _ _ _ _ (by simp; omega), Below.heap_setCell _ _ _ _ (by simp; omega)])).own.lower (by simp; omega)
  · exact (((((below_boxed _ _).alloc (by simp) _).alloc (by simp; omega) _).trans (hb1.mono (by simp; omega))).setCell (by simp; omega) _ |>.setCell (by simp) _ |>.setCell (by simp) _)

theorem eqD_v (w : World) (p : Int) {A A' : Option Addr} {n c c' : Nat} {R R' : Spine} {xss : List (List Int)} (hx : RdM w A c R xss) (hy : RdM w A' c' R' xss) (hn : xss.length = n) (hb : xss.length ≤ 140737488355328)
    (hb' : ∀ k, k < xss.length → (row xss k).length ≤ 140737488355328) :
    Calls Tryz.prog 10 #[.agg #[.int .i64 p, .slice A n c], .agg #[.int .i64 p, .slice A' n c']] w (PostV w (.bool true)) := by
  have h := eqD w p p hx hy hn hn hb hb'
  rw [decide_eq_true ⟨rfl, rfl⟩] at h
  exact h

/-- It returned a design of its own memory, and a code. -/
def PostDC (w : World) (p : Int) (xss : List (List Int)) (k : Int) (e : Ending) (w' : World) : Prop :=
  (∃ A n c R, e = .returned (.tuple #[.agg #[.int .i64 p, .slice A n c], .int .i64 k]) ∧ xss.length = n ∧ OwnM w' w.heap.size A c R xss) ∧ Below w.heap.size w w'
end Go.Proofs.YtmmkmkbpgcbehaaGreat

/-
  Whether a design is valid: l10Block, l10Ok of the reference, slices.IsSortedFunc at slices.Compare, ValidDesign of the program. Conditions: those of each theorem.
-/
namespace Go.Proofs.YtmmkmkbpgcbehaaGreat
open Go.RowKit
set_option linter.unusedVariables false
set_option linter.unusedSimpArgs false

def DsgOk (p : Int) (xss : List (List Int)) : Prop :=
  (1 ≤ p ∧ p ≤ 32) ∧ xss.length ≤ 128 ∧ ∀ k, k < xss.length → blockB (row xss k) p = true ∧ (0 < k → cmpL (row xss (k - 1)) (row xss k) ≤ 0)
instance (p : Int) (xss : List (List Int)) : Decidable (DsgOk p xss) := by unfold DsgOk; infer_instance
def dsgB (p : Int) (xss : List (List Int)) : Bool := decide (DsgOk p xss)
theorem dsgB_true {p : Int} {xss : List (List Int)} : dsgB p xss = true ↔ DsgOk p xss := by simp [dsgB]

theorem setB_rise {xs : List Int} {p : Int} (h0 : 0 ≤ p) (h1 : p ≤ 32) : setB xs p = riseB 0 (p - 1) xs := by
  unfold setB riseB
  exact decide_eq_decide.2 ⟨fun h => h.1, fun h => ⟨h, h0, h1⟩⟩

theorem EndQ.postV {v : Value} {w : World} {e : Ending} {w' : World} (h : EndQ v w e w') : PostV w v e w' := by
  obtain ⟨he, m, rfl⟩ := h
  exact ⟨he, below_drewN (Below.refl _ _) m⟩

set_option maxHeartbeats 400000 in
theorem l10Block_c (w : World) (A : Option Addr) (n c : Nat) (xs : List Int) (p : Int) (hp0 : 0 ≤ p) (hp1 : p ≤ 32) (hr : RdI w A c xs) (hn : xs.length = n) :
    Calls Tryz.prog 72 #[.slice A n c, .int .i64 p] w (EndQ (.bool (blockB xs p)) w) := by
  have HV := Lib.hid (rises_c w A n c xs 0 (p - 1) hr hn)
  by_cases h0 : 0 < n
  · have h0' : (0 : Int) < (n : Int) := by omega
    rw [show blockB xs p = riseB 0 (p - 1) xs by rw [← setB_rise hp0 hp1]; simp [blockB, hn, h0]]
    clear hr hn
    go_enter Tryz.func72, Tryz.ntmps72
    go_wp2_with fail
    refine (HV.out).mono ?_
    rintro e w' ⟨rfl, m, rfl⟩
    go_wp2
    go_ret
    exact ⟨rfl, m, rfl⟩
  · obtain rfl : n = 0 := by omega
    rw [show blockB xs p = false by simp [blockB, hn]]
    clear hr hn h0
    go_enter Tryz.func72, Tryz.ntmps72
    go_wp2
    go_ret
    exact ⟨rfl, 0, rfl⟩

/-- The box of a design. -/
structure BoxD (w : World) (B : Nat) (p : Int) (A : Option Addr) (n c : Nat) : Prop where
  c0 : w.cell? ⟨B, 0, none⟩ = some (.int .i64 p)
  c1 : w.cell? ⟨B, 1, none⟩ = some (.slice A n c)
theorem BoxD.made (w : World) (p : Int) (A : Option Addr) (n c : Nat) (T : TypeId) : BoxD (w.alloc (.cells #[.int .i64 p, .slice A n c] T)) w.heap.size p A n c := ⟨by simp [go_sem], by simp [go_sem]⟩
theorem BoxD.lt {w : World} {B : Nat} {p : Int} {A : Option Addr} {n c : Nat} (h : BoxD w B p A n c) : B < w.heap.size := cell_size h.c0
theorem BoxD.below {w w' : World} {B : Nat} {p : Int} {A : Option Addr} {n c : Nat} (h : BoxD w B p A n c) (hb : Below w.heap.size w w') : BoxD w' B p A n c :=
  ⟨(hb.cell (p := ⟨B, 0, none⟩) h.lt).trans h.c0, (hb.cell (p := ⟨B, 1, none⟩) h.lt).trans h.c1⟩
theorem BoxD.drewN {w : World} {B : Nat} {p : Int} {A : Option Addr} {n c : Nat} (h : BoxD w B p A n c) (m : Nat) : BoxD (w.drewN m) B p A n c := ⟨h.c0, h.c1⟩

set_option maxHeartbeats 2000000 in
theorem l10Ok_c (w : World) (B : Nat) (A : Option Addr) (n c : Nat) (R : Spine) (xss : List (List Int)) (p : Int) (hx : BoxD w B p A n c) (hr : RdM w A c R xss) (hn : xss.length = n) :
    Calls Tryz.prog 42 #[.pointer (some ⟨B, 0, none⟩)] w (EndQ (.bool (dsgB p xss)) w) := by
  have hm : n ≤ 9223372036854775807 := by have h1 := hr.le; have h2 := hr.cap; unfold maxLen at h2; omega
  have hc0 := hx.c0
  have hc1 := hx.c1
  have HR := Lib.hid hr
  have HN := Lib.hid hn
  obtain ⟨T, hT⟩ : ∃ T, T = dsgB p xss := ⟨_, rfl⟩
  rw [← hT]
  have HT := Lib.hid hT
  clear hr hn hx hT
  have hw := in_c p 1 32
  by_cases hp : 1 ≤ p ∧ p ≤ 32
  · rw [inB_true.2 hp] at hw
    have HW := Lib.hid hw
    clear hw
    by_cases hz : n ≤ 128
    · have hz' : (n : Int) ≤ 128 := by omega
      go_enter Tryz.func42, Tryz.ntmps42
      go_wp2_with fail
      refine (HW.out _).mono ?_
      rintro e w' ⟨rfl, rfl⟩
      go_wp2
      go_loopw [3] (fun i wr => ∃ k : Nat, k ≤ n ∧ i = .int .i64 k ∧ Hid (∀ j, j < k → blockB (row xss j) p = true ∧ (0 < j → cmpL (row xss (j - 1)) (row xss j) ≤ 0)) ∧ Qt w wr) (fun i _ => n - (intOf i).toNat)
      case atStart => exact ⟨0, Nat.zero_le _, rfl, fun j hj => absurd hj (by omega), Qt.refl w⟩
      case round =>
        obtain ⟨k, hk, rfl, hP, ⟨m, rfl⟩⟩ := hrel
        by_cases hlt : k < n
        · have hkx : k < xss.length := by rw [HN.out]; exact hlt
          obtain ⟨b, off, rfl, hb, hc⟩ := HR.out.at_ k hkx
          have hcall := fun q => l10Block_c (w.drewN q) (R k).1 (row xss k).length (R k).2 (row xss k) p (by omega) (by omega) ((HR.out.rows k hkx).drewN q) rfl
          have hi0 : (0 : Int) ≤ (k : Int) := by omega
          have hi1 : (k : Int) < (n : Int) := by omega
          rcases hbl : blockB (row xss k) p with _ | _
          · rw [hbl] at hcall
            have HC := Lib.hid hcall
            have HF := Lib.hid (show T = false by
              rw [HT.out]
              exact decide_eq_false (fun h => by have := (h.2.2 k hkx).1; rw [hbl] at this; cases this))
            clear hcall hbl
            go_wp2
            go_quiet ((go_at_call 72; exact quiet_endN (HC.out _)))
            go_wp2
            go_ret
            exact ⟨ret_b HF.out.symm, qt2 _ _ _⟩
          · rw [hbl] at hcall
            have HC := Lib.hid hcall
            have HBL := Lib.hid hbl
            clear hcall hbl
            by_cases h0 : k = 0
            · have HP := Lib.hid (show ∀ j, j < k + 1 → blockB (row xss j) p = true ∧ (0 < j → cmpL (row xss (j - 1)) (row xss j) ≤ 0) from fun j hj => by
                obtain rfl : j = k := by omega
                exact ⟨HBL.out, fun h => by omega⟩)
              subst h0
              simp only [Nat.add_zero] at hc
              go_wp2
              go_quiet ((go_at_call 72; exact quiet_endN (HC.out _)))
              go_wp2
              go_roundw
              case rel => exact ⟨1, by omega, rfl, HP, ⟨_, rfl⟩⟩
              case measure => simp [intOf]; omega
            · obtain ⟨b', off', e, _, hc2⟩ := HR.out.at_ (k - 1) (by omega)
              injection e with e
              injection e with e1 e2
              subst e1 e2
              have hcmp := fun q => CompareLists_c (w.drewN q) (R (k - 1)).1 (R k).1 (row xss (k - 1)).length (row xss k).length (R (k - 1)).2 (R k).2 (row xss (k - 1)) (row xss k) ((HR.out.rows (k - 1) (by omega)).drewN q) rfl ((HR.out.rows k hkx).drewN q) rfl
              have hbd := cmpL_bd (row xss (k - 1)) (row xss k)
              have hk0 : decide (0 < (k : Int)) = true := by simp; omega
              have hk0' : (0 : Int) < (k : Int) := by omega
              have hk1 : 0 < k := by omega
              have hk2 : decide (0 < k) = true := decide_eq_true hk1
              have hsub : IntKind.i64.wrap ((k : Int) - 1) = ((k - 1 : Nat) : Int) := by rw [show (k : Int) - 1 = ((k - 1 : Nat) : Int) by omega]; exact IntWalk.i64_in _ (by omega)
              have hs0 : (0 : Int) ≤ ((k - 1 : Nat) : Int) := by omega
              have hs1 : ((k - 1 : Nat) : Int) < (n : Int) := by omega
              obtain ⟨q, hq⟩ : ∃ q, q = cmpL (row xss (k - 1)) (row xss k) := ⟨_, rfl⟩
              rw [← hq] at hcmp hbd
              have HQ := Lib.hid hq
              have HCM := Lib.hid hcmp
              clear hq hcmp
              generalize hj : k - 1 = j at hsub hs0 hs1 hc2 HCM
              have HJ := Lib.hid hj
              by_cases h2 : 0 < q
              · have h2' : decide (0 < q) = true := by simp; omega
                have HF := Lib.hid (show T = false by
                  rw [HT.out]
                  exact decide_eq_false (fun h => by have := (h.2.2 k hkx).2 (by omega); rw [← HQ.out] at this; omega))
                clear h0 hj
                go_wp2
                go_quiet ((first | (go_at_call 72; exact quiet_endN (HC.out _)) | (go_at_call 60; exact quiet_endN (HCM.out _))))
                clear hsub
                go_wp2
                go_ret
                exact ⟨ret_b HF.out.symm, qt2 _ _ _⟩
              · have h2' : decide (0 < q) = false := by simp; omega
                have HP := Lib.hid (show ∀ j, j < k + 1 → blockB (row xss j) p = true ∧ (0 < j → cmpL (row xss (j - 1)) (row xss j) ≤ 0) from fun j hj => by
                  by_cases e : j = k
                  · subst e; exact ⟨HBL.out, fun _ => by rw [← HQ.out]; omega⟩
                  · exact hP.out j (by omega))
                clear h0 hj
                go_wp2
                go_quiet ((first | (go_at_call 72; exact quiet_endN (HC.out _)) | (go_at_call 60; exact quiet_endN (HCM.out _))))
                clear hsub
                go_wp2
                go_roundw
                case rel => exact ⟨k + 1, by omega, by go_num, HP, ⟨_, rfl⟩⟩
                case measure => simp [intOf]; omega
        · obtain rfl : k = n := by omega
          have HF := Lib.hid (show T = true by
            rw [HT.out]
            exact decide_eq_true ⟨hp, by rw [HN.out]; exact hz, by rw [HN.out]; exact hP.out⟩)
          go_wp2
          go_ret
          exact ⟨ret_b HF.out.symm, m, rfl⟩
    · have HF := Lib.hid (show T = false by
        rw [HT.out]
        exact decide_eq_false (fun h => hz (by rw [← HN.out]; exact h.2.1)))
      have hz' : (128 : Int) < (n : Int) := by omega
      clear hz
      go_enter Tryz.func42, Tryz.ntmps42
      go_wp2_with fail
      refine (HW.out _).mono ?_
      rintro e w' ⟨rfl, rfl⟩
      go_wp2
      go_ret
      exact ⟨ret_b HF.out.symm, 0, rfl⟩
  · rw [inB_false.2 hp] at hw
    have HW := Lib.hid hw
    have HF := Lib.hid (show T = false by
      rw [HT.out]
      exact decide_eq_false (fun h => hp h.1))
    clear hw hp
    go_enter Tryz.func42, Tryz.ntmps42
    go_wp2_with fail
    refine (HW.out _).mono ?_
    rintro e w' ⟨rfl, rfl⟩
    go_wp2
    go_ret
    exact ⟨ret_b HF.out.symm, 0, rfl⟩

/-! ### The program's -/

def SortedR (xss : List (List Int)) : Prop := ∀ k, k < xss.length → 0 < k → cmpL (row xss (k - 1)) (row xss k) ≤ 0
instance (xss : List (List Int)) : Decidable (SortedR xss) := by unfold SortedR; infer_instance
def sortedB (xss : List (List Int)) : Bool := decide (SortedR xss)

set_option maxHeartbeats 1000000 in
theorem isSorted_c (w : World) (A : Option Addr) (n c : Nat) (R : Spine) (xss : List (List Int)) (hr : RdM w A c R xss) (hn : xss.length = n) :
    Calls Tryz.prog 78 #[.slice A n c, .func (.func 58) #[] #[]] w (EndQ (.bool (sortedB xss)) w) := by
  have hm : n ≤ 9223372036854775807 := by have h1 := hr.le; have h2 := hr.cap; unfold maxLen at h2; omega
  have HR := Lib.hid hr
  have HN := Lib.hid hn
  obtain ⟨T, hT⟩ : ∃ T, T = sortedB xss := ⟨_, rfl⟩
  rw [← hT]
  have HT := Lib.hid hT
  clear hr hn hT
  by_cases hz : n = 0
  · subst hz
    have HF := Lib.hid (show T = true by
      rw [HT.out]
      exact decide_eq_true (fun k hk => by rw [HN.out] at hk; omega))
    go_enter Tryz.func78, Tryz.ntmps78
    go_wp2
    go_loop [5] (fun i => i = .int .i64 (-1)) (fun _ => 0)
    case atStart => first | rfl | simp
    case round =>
      obtain rfl := hrel
      go_wp2
      go_ret
      exact ⟨ret_b HF.out.symm, 0, rfl⟩
  obtain ⟨l, hl⟩ : ∃ l, n = l + 1 := ⟨n - 1, by omega⟩
  have hsub0 : (n : Int) - 1 = (l : Int) := by omega
  have HL := Lib.hid hl
  have HS0 := Lib.hid hsub0
  clear hl hz hsub0
  have hnn : (1 : Int) ≤ (n : Int) := by have := HL.out; omega
  go_enter Tryz.func78, Tryz.ntmps78
  go_wp2
  go_loopw [5] (fun i wr => ∃ k : Nat, k < n ∧ i = .int .i64 k ∧ Hid (∀ j, k < j → j < n → cmpL (row xss (j - 1)) (row xss j) ≤ 0) ∧ Qt w wr) (fun i _ => (intOf i).toNat)
  case atStart => exact ⟨l, by have := HL.out; omega, by rw [HS0.out], fun j hj hj2 => by have := HL.out; omega, Qt.refl w⟩
  case round =>
    obtain ⟨k, hk, rfl, hP, ⟨m, rfl⟩⟩ := hrel
    by_cases h0 : k = 0
    · have HF := Lib.hid (show T = true by
        rw [HT.out]
        exact decide_eq_true (fun j hj hj0 => hP.out j (by omega) (by rw [← HN.out]; exact hj)))
      subst h0
      go_wp2
      go_ret
      exact ⟨ret_b HF.out.symm, m, rfl⟩
    · have hkx : k < xss.length := by rw [HN.out]; exact hk
      obtain ⟨b, off, rfl, hb, hc⟩ := HR.out.at_ k hkx
      obtain ⟨b', off', e, _, hc2⟩ := HR.out.at_ (k - 1) (by omega)
      injection e with e
      injection e with e1 e2
      subst e1 e2
      have hcmp := fun q => Compare_c (w.drewN q) (R k).1 (R (k - 1)).1 (row xss k).length (row xss (k - 1)).length (R k).2 (R (k - 1)).2 (row xss k) (row xss (k - 1)) ((HR.out.rows k hkx).drewN q) rfl ((HR.out.rows (k - 1) (by omega)).drewN q) rfl
      have hbd := cmpL_bd (row xss k) (row xss (k - 1))
      have hi0 : (0 : Int) ≤ (k : Int) := by omega
      have hi1 : (k : Int) < (n : Int) := by omega
      have hk0' : (0 : Int) < (k : Int) := by omega
      have hsub : IntKind.i64.wrap ((k : Int) - 1) = ((k - 1 : Nat) : Int) := by rw [show (k : Int) - 1 = ((k - 1 : Nat) : Int) by omega]; exact IntWalk.i64_in _ (by omega)
      have hs0 : (0 : Int) ≤ ((k - 1 : Nat) : Int) := by omega
      have hs1 : ((k - 1 : Nat) : Int) < (n : Int) := by omega
      obtain ⟨q, hq⟩ : ∃ q, q = cmpL (row xss k) (row xss (k - 1)) := ⟨_, rfl⟩
      rw [← hq] at hcmp hbd
      have HQ := Lib.hid (hq.trans (cmpL_neg _ _))
      have HCM := Lib.hid hcmp
      clear hq hcmp
      generalize hj : k - 1 = j at hsub hs0 hs1 hc2 HCM
      have HJ := Lib.hid hj
      by_cases h2 : q < 0
      · have h2' : decide (q < 0) = true := by simp; omega
        have HF := Lib.hid (show T = false by
          rw [HT.out]
          exact decide_eq_false (fun h => by have := h k hkx (by omega); have := HQ.out; omega))
        clear h0 hj
        go_wp2
        go_quiet ((go_at_call 58; exact quiet_drN (HCM.out _)))
        clear hsub
        go_wp2
        go_ret
        exact ⟨ret_b HF.out.symm, qt2 _ _ _⟩
      · have h2' : decide (q < 0) = false := by simp; omega
        have HP := Lib.hid (show ∀ i, j < i → i < n → cmpL (row xss (i - 1)) (row xss i) ≤ 0 from fun i hi hi2 => by
          by_cases e : i = k
          · subst e; have := HQ.out; omega
          · exact hP.out i (by omega) hi2)
        clear h0 hj
        go_wp2
        go_quiet ((go_at_call 58; exact quiet_drN (HCM.out _)))
        clear hsub
        go_wp2
        go_roundw
        case rel => exact ⟨j, by omega, by have := HJ.out; go_num, HP, ⟨_, rfl⟩⟩
        case measure => have := HJ.out; simp [intOf]; omega

set_option maxHeartbeats 1000000 in
theorem ValidDesign_c (w : World) (p : Int) (A : Option Addr) (n c : Nat) (R : Spine) (xss : List (List Int)) (hr : RdM w A c R xss) (hn : xss.length = n) :
    Calls Tryz.prog 47 #[.agg #[.int .i64 p, .slice A n c]] w (PostV w (.bool (dsgB p xss))) := by
  have hm : n ≤ 9223372036854775807 := by have h1 := hr.le; have h2 := hr.cap; unfold maxLen at h2; omega
  obtain ⟨T, hT⟩ : ∃ T, T = dsgB p xss := ⟨_, rfl⟩
  rw [← hT]
  have HT := Lib.hid hT
  have HN := Lib.hid hn
  obtain ⟨W, hW⟩ : ∃ W, W = w.alloc (.cells #[.int .i64 p, .slice A n c] 28) := ⟨_, rfl⟩
  have hB0 : Below w.heap.size w W := by rw [hW]; exact below_boxed _ _
  have hx0 : BoxD W w.heap.size p A n c := by rw [hW]; exact BoxD.made _ _ _ _ _ _
  have hA := areBlocks_c W A n c R xss p (hr.below hB0) hn
  have hS := fun (w1 : World) (h : Below w.heap.size w w1) => isSorted_c w1 A n c R xss (hr.below h) hn
  have hz := hB0.size
  rcases hb : blocksB xss p with _ | _
  · rw [hb] at hA
    have HA := Lib.hid hA
    have HF := Lib.hid (show T = false by
      rw [HT.out]
      exact decide_eq_false (fun h => by
        have : blocksB xss p = true := decide_eq_true ⟨h.1, fun k hk => (h.2.2 k hk).1⟩
        rw [hb] at this; cases this))
    rw [hW] at HA hB0 hz
    clear hA hS hb hr hn hT hx0 hW
    go_enter Tryz.func47, Tryz.ntmps47
    go_wp2_with fail
    refine (HA.out).mono ?_
    rintro e w' ⟨rfl, hb⟩
    have hB := hB0.trans (hb.mono hz)
    go_wp2
    go_ret
    exact ⟨ret_b HF.out.symm, hB⟩
  · rw [hb] at hA
    have HA := Lib.hid hA
    have HBl := Lib.hid (of_decide_eq_true (p := BlocksOk xss p) hb)
    have HX := Lib.hid hx0
    clear hA hb hx0
    by_cases h128 : n ≤ 128
    · have h128' : (n : Int) ≤ 128 := by omega
      have HS := Lib.hid hS
      have HF := Lib.hid (show sortedB xss = T by
        rw [HT.out]
        exact decide_eq_decide.2 ⟨fun h => ⟨HBl.out.1, by rw [HN.out]; exact h128, fun k hk => ⟨HBl.out.2 k hk, h k hk⟩⟩, fun h k hk => (h.2.2 k hk).2⟩)
      clear hS hr hn hT
      rw [hW] at HA hB0 hz HX
      clear hW
      generalize sortedB xss = q at *
      go_enter Tryz.func47, Tryz.ntmps47
      go_wp2_with fail
      refine (HA.out).mono ?_
      rintro e w1 ⟨rfl, hb⟩
      have hB := hB0.trans (hb.mono hz)
      have hc1 := (HX.out.below hb).c1
      go_wp2_with fail
      refine (HS.out w1 hB).mono ?_
      rintro e w2 ⟨rfl, m, rfl⟩
      cases q
      all_goals go_wp2
      all_goals go_ret
      all_goals exact ⟨ret_b HF.out, below_drewN hB m⟩
    · have HF := Lib.hid (show T = false by
        rw [HT.out]
        exact decide_eq_false (fun h => h128 (by rw [← HN.out]; exact h.2.1)))
      have h128' : (128 : Int) < (n : Int) := by omega
      clear hS hr hn hT h128
      rw [hW] at HA hB0 hz HX
      clear hW
      go_enter Tryz.func47, Tryz.ntmps47
      go_wp2_with fail
      refine (HA.out).mono ?_
      rintro e w1 ⟨rfl, hb⟩
      have hB := hB0.trans (hb.mono hz)
      have hc1 := (HX.out.below hb).c1
      go_wp2
      go_ret
      exact ⟨ret_b HF.out.symm, hB⟩
end Go.Proofs.YtmmkmkbpgcbehaaGreat

/-
  Membership: l00Has of the reference, slices.Index and slices.Contains of the library; the program's filtered and its kin. Conditions: those of each theorem.
-/
namespace Go.Proofs.YtmmkmkbpgcbehaaGreat
open Go.RowKit
set_option linter.unusedVariables false
set_option linter.unusedSimpArgs false

def hasB (xs : List Int) (x : Int) : Bool := decide (x ∈ xs)
theorem hasB_true {xs : List Int} {x : Int} : hasB xs x = true ↔ x ∈ xs := by simp [hasB]
theorem hasB_false {xs : List Int} {x : Int} : hasB xs x = false ↔ x ∉ xs := by simp [hasB]
theorem mem_nth {xs : List Int} {x : Int} : x ∈ xs ↔ ∃ k, k < xs.length ∧ nth xs k = x := by
  constructor
  · intro h
    obtain ⟨k, hk, e⟩ := List.mem_iff_getElem.1 h
    exact ⟨k, hk, by rw [nth_eq hk]; exact e⟩
  · rintro ⟨k, hk, rfl⟩
    rw [nth_eq hk]
    exact List.getElem_mem hk
theorem hasB_hit {xs : List Int} {x : Int} {k : Nat} (hk : k < xs.length) (h : nth xs k = x) : hasB xs x = true := hasB_true.2 (mem_nth.2 ⟨k, hk, h⟩)
theorem hasB_miss {xs : List Int} {x : Int} (h : ∀ j, j < xs.length → nth xs j ≠ x) : hasB xs x = false := hasB_false.2 fun hm => by
  obtain ⟨k, hk, e⟩ := mem_nth.1 hm
  exact h k hk e

set_option maxHeartbeats 400000 in
theorem has_c (w : World) (A : Option Addr) (n c : Nat) (xs : List Int) (x : Int) (hr : RdI w A c xs) (hn : xs.length = n) :
    Calls Tryz.prog 29 #[.slice A n c, .int .i64 x] w fun e w' => e = .returned (.bool (hasB xs x)) ∧ w = w' := by
  have hm : n ≤ 9223372036854775807 := by have h1 := hr.le; have h2 := hr.cap; unfold maxLen at h2; omega
  have HR := Lib.hid hr
  have HN := Lib.hid hn
  clear hr hn
  go_enter Tryz.func29, Tryz.ntmps29
  go_wp2
  go_loop [5] (fun i => ∃ k : Nat, k ≤ n ∧ i = .int .i64 k ∧ Hid (∀ j, j < k → nth xs j ≠ x)) (fun i => n - (intOf i).toNat)
  case atStart => exact ⟨0, Nat.zero_le _, rfl, fun j hj => absurd hj (by omega)⟩
  case round =>
    obtain ⟨k, hk, rfl, hP⟩ := hrel
    by_cases hlt : k < n
    · have hkx : k < xs.length := by rw [HN.out]; exact hlt
      obtain ⟨b, off, rfl, hb, hc⟩ := HR.out.at_ k hkx
      by_cases h1 : nth xs k = x
      · have hd : (nth xs k == x) = true := by simp [h1]
        have HF := Lib.hid (hasB_hit hkx h1)
        clear h1
        go_wp2
        go_ret
        exact ⟨ret_b HF.out.symm, rfl⟩
      · have hd : (nth xs k == x) = false := by simp [h1]
        have H1 := Lib.hid h1
        clear h1
        go_wp2
        go_round
        case rel =>
          refine ⟨k + 1, by omega, by go_num, fun j hj => ?_⟩
          by_cases e : j = k
          · subst e; exact H1.out
          · exact hP.out j (by omega)
        case measure => simp [intOf]; omega
    · obtain rfl : k = n := by omega
      have HF := Lib.hid (hasB_miss (xs := xs) (x := x) (by rw [HN.out]; exact hP.out))
      go_wp2
      go_ret
      exact ⟨ret_b HF.out.symm, rfl⟩

def idxB (xs : List Int) (x : Int) (k : Nat) : Bool := decide (nth xs k = x)
theorem firstIdx_lt {p : Nat → Bool} {n : Nat} : firstIdx p n < (n : Int) := by
  unfold firstIdx
  rcases h : (List.range n).find? p with _ | k
  · simp
    omega
  · have := List.mem_range.1 (List.mem_of_find?_eq_some h)
    simp
    omega
theorem hasB_idx (xs : List Int) (x : Int) : hasB xs x = decide (0 ≤ firstIdx (idxB xs x) xs.length) := by
  by_cases h : x ∈ xs
  · rw [hasB_true.2 h]
    obtain ⟨k, hk, e⟩ := mem_nth.1 h
    symm
    refine decide_eq_true ?_
    unfold firstIdx
    rcases hf : (List.range xs.length).find? (idxB xs x) with _ | j
    · have := List.find?_eq_none.1 hf k (List.mem_range.2 hk)
      simp [idxB, e] at this
    · simp
  · rw [hasB_false.2 h]
    symm
    refine decide_eq_false ?_
    rw [firstIdx_miss fun j hj => by unfold idxB; exact decide_eq_false fun e => h (mem_nth.2 ⟨j, hj, e⟩)]
    omega

set_option maxHeartbeats 400000 in
theorem index_c (w : World) (A : Option Addr) (n c : Nat) (xs : List Int) (x : Int) (hr : RdI w A c xs) (hn : xs.length = n) :
    Calls Tryz.prog 68 #[.slice A n c, .int .i64 x] w fun e w' => e = .returned (.int .i64 (firstIdx (idxB xs x) n)) ∧ w = w' := by
  have hm : n ≤ 9223372036854775807 := by have h1 := hr.le; have h2 := hr.cap; unfold maxLen at h2; omega
  have HR := Lib.hid hr
  have HN := Lib.hid hn
  clear hr hn
  go_enter Tryz.func68, Tryz.ntmps68
  go_wp2
  go_loop [8] (fun i => ∃ k : Nat, k ≤ n ∧ i = .int .i64 k ∧ Hid (∀ j, j < k → idxB xs x j = false)) (fun i => n - (intOf i).toNat)
  case atStart => exact ⟨0, Nat.zero_le _, rfl, fun j hj => absurd hj (by omega)⟩
  case round =>
    obtain ⟨k, hk, rfl, hP⟩ := hrel
    by_cases hlt : k < n
    · have hkx : k < xs.length := by rw [HN.out]; exact hlt
      obtain ⟨b, off, rfl, hb, hc⟩ := HR.out.at_ k hkx
      by_cases h1 : nth xs k = x
      · have hd : (x == nth xs k) = true := by simp [h1]
        have HF := Lib.hid (firstIdx_hit (p := idxB xs x) hlt (decide_eq_true h1) hP.out)
        clear h1
        go_wp2
        go_ret
        exact ⟨by rw [HF.out]; rfl, rfl⟩
      · have hd : (x == nth xs k) = false := by simp; exact fun e => h1 e.symm
        have H1 := Lib.hid (show idxB xs x k = false from decide_eq_false h1)
        clear h1
        go_wp2
        go_round
        case rel =>
          refine ⟨k + 1, by omega, by go_num, fun j hj => ?_⟩
          by_cases e : j = k
          · subst e; exact H1.out
          · exact hP.out j (by omega)
        case measure => simp [intOf]; omega
    · obtain rfl : k = n := by omega
      have HF := Lib.hid (firstIdx_miss (p := idxB xs x) hP.out)
      go_wp2
      go_ret
      exact ⟨by rw [HF.out]; rfl, rfl⟩

theorem contains_c (w : World) (A : Option Addr) (n c : Nat) (xs : List Int) (x : Int) (hr : RdI w A c xs) (hn : xs.length = n) :
    Calls Tryz.prog 35 #[.slice A n c, .int .i64 x] w fun e w' => e = .returned (.bool (hasB xs x)) ∧ w = w' := by
  have HI := Lib.hid (index_c w A n c xs x hr hn)
  have HE := Lib.hid (show decide (0 ≤ firstIdx (idxB xs x) n) = hasB xs x by rw [hasB_idx, hn])
  clear hr hn
  generalize firstIdx (idxB xs x) n = q at *
  by_cases h : 0 ≤ q
  · rw [← HE.out, decide_eq_true h]
    go_enter Tryz.func35, Tryz.ntmps35
    go_wp2_with fail
    refine (HI.out).mono ?_
    rintro e w' ⟨rfl, rfl⟩
    go_wp2
    go_ret
    exact ⟨rfl, rfl⟩
  · rw [← HE.out, decide_eq_false h]
    have hd : decide (0 ≤ q) = false := decide_eq_false h
    clear h
    go_enter Tryz.func35, Tryz.ntmps35
    go_wp2_with fail
    refine (HI.out).mono ?_
    rintro e w' ⟨rfl, rfl⟩
    go_wp2
    go_ret
    exact ⟨rfl, rfl⟩

/-! ### The program's filtered -/

def fltB (xs ys : List Int) (g : Bool → Bool → Bool) (k : Nat) : Bool := g (hasB xs (k : Int)) (hasB ys (k : Int))
/-- The numbers below k that are kept. -/
def fltTo (xs ys : List Int) (g : Bool → Bool → Bool) (k : Nat) : List Int := ((List.range k).filter (fltB xs ys g)).map fun (j : Nat) => (j : Int)
theorem fltTo_succ (xs ys : List Int) (g : Bool → Bool → Bool) (k : Nat) : fltTo xs ys g (k + 1) = fltTo xs ys g k ++ if fltB xs ys g k = true then [(k : Int)] else [] := by
  unfold fltTo
  rw [List.range_succ, List.filter_append, List.map_append]
  by_cases h : fltB xs ys g k = true <;> simp [List.filter_cons, h]
theorem fltTo_len (xs ys : List Int) (g : Bool → Bool → Bool) (k : Nat) : (fltTo xs ys g k).length ≤ k := by
  unfold fltTo
  rw [List.length_map]
  have := List.length_filter_le (fltB xs ys g) (List.range k)
  simpa using this
/-- What filtered returns. -/
def filtL (xs ys : List Int) (g : Bool → Bool → Bool) : List Int := if setB xs 32 = true ∧ setB ys 32 = true then fltTo xs ys g 32 else []
theorem filtL_len (xs ys : List Int) (g : Bool → Bool → Bool) : (filtL xs ys g).length ≤ 32 := by
  unfold filtL
  split
  · exact fltTo_len _ _ _ _
  · simp

set_option maxHeartbeats 2000000 in
theorem filtered_c (w : World) (A B : Option Addr) (n m c d : Nat) (xs ys : List Int) (g : Nat) (lb : Array Value) (f : Bool → Bool → Bool) (eg : ∀ args w, (callFunc g args).run Tryz.prog w = .ok (.enter g args) w)
    (hx : RdI w A c xs) (hn : xs.length = n) (hy : RdI w B d ys) (hm : ys.length = m) (hp : ∀ W p q, Calls Tryz.prog g (#[.bool p, .bool q] ++ lb) W fun e w' => e = .returned (.bool (f p q)) ∧ W = w') :
    Calls Tryz.prog 66 #[.slice A n c, .slice B m d, .func (.func g) #[] lb] w (PostS w (filtL xs ys f)) := by
  have h1 := ValidSet_c w A n c xs 32 hx hn
  have h2 := ValidSet_c w B m d ys 32 hy hm
  have hc1 := fun (W : World) (hb : Below w.heap.size w W) (k : Nat) => contains_c W A n c xs (k : Int) (hx.below hb) hn
  have hc2 := fun (W : World) (hb : Below w.heap.size w W) (k : Nat) => contains_c W B m d ys (k : Int) (hy.below hb) hm
  rcases e1 : setB xs 32 with _ | _
  · rw [e1] at h1
    rw [show filtL xs ys f = [] by simp [filtL, e1]]
    have H1 := Lib.hid h1
    clear h1 h2 hc1 hc2 e1 hx hy hn hm hp
    go_enter Tryz.func66, Tryz.ntmps66
    go_wp2_with fail
    refine (H1.out).mono ?_
    rintro e w' ⟨rfl, rfl⟩
    go_wp2
    go_ret
    exact ⟨⟨none, 0, 0, rfl, rfl, OwnI.nil_ _ _⟩, Below.refl _ _⟩
  · rw [e1] at h1
    rcases e2 : setB ys 32 with _ | _
    · rw [e2] at h2
      rw [show filtL xs ys f = [] by simp [filtL, e2]]
      have H1 := Lib.hid h1
      have H2 := Lib.hid h2
      clear h1 h2 hc1 hc2 e1 e2 hx hy hn hm hp
      go_enter Tryz.func66, Tryz.ntmps66
      go_wp2_with fail
      refine (H1.out).mono ?_
      rintro e w' ⟨rfl, rfl⟩
      go_wp2_with fail
      refine (H2.out).mono ?_
      rintro e w' ⟨rfl, rfl⟩
      go_wp2
      go_ret
      exact ⟨⟨none, 0, 0, rfl, rfl, OwnI.nil_ _ _⟩, Below.refl _ _⟩
    · rw [e2] at h2
      rw [show filtL xs ys f = fltTo xs ys f 32 by simp [filtL, e1, e2]]
      have H1 := Lib.hid h1
      have H2 := Lib.hid h2
      have HC1 := Lib.hid hc1
      have HC2 := Lib.hid hc2
      have HP := Lib.hid hp
      clear h1 h2 hc1 hc2 e1 e2 hx hy hn hm hp
      go_enter Tryz.func66, Tryz.ntmps66
      go_wp2_with fail
      refine (H1.out).mono ?_
      rintro e w' ⟨rfl, rfl⟩
      go_wp2_with fail
      refine (H2.out).mono ?_
      rintro e w' ⟨rfl, rfl⟩
      go_wp2
      go_loopw [7, 8] (fun o q wr => ∃ (k s : Nat) (A : Option Addr) (c : Nat), k ≤ 32 ∧ q = .int .i64 (k : Int) ∧ o = .slice A s c ∧ Hid ((fltTo xs ys f k).length = s) ∧ s ≤ k ∧ OwnI wr w.heap.size A c (fltTo xs ys f k) ∧ Below w.heap.size w wr) (fun _ q _ => 32 - (intOf q).toNat)
      case atStart => exact ⟨0, 0, none, 0, by omega, rfl, rfl, rfl, by omega, OwnI.nil_ _ _, Below.refl _ _⟩
      case round =>
        obtain ⟨k, s, A2, c2, hk, rfl, rfl, hs, hsk, ho, hB⟩ := hrel
        have HO := Lib.hid ho
        have hz := hB.size
        have hB' := hB
        clear ho
        by_cases hlt : k < 32
        · have hS := fltTo_succ xs ys f k
          have ha := HC1.out wr hB k
          have hb := HC2.out wr hB k
          have hf := HP.out wr (hasB xs (k : Int)) (hasB ys (k : Int))
          have hq : fltB xs ys f k = f (hasB xs (k : Int)) (hasB ys (k : Int)) := rfl
          rw [hq] at hS
          generalize hasB xs (k : Int) = p1 at *
          generalize hasB ys (k : Int) = p2 at *
          rcases hv : f p1 p2 with _ | _
          · rw [hv] at hf hS
            simp only [Bool.false_eq_true, if_false, List.append_nil] at hS
            have HS := Lib.hid hS
            have HCa := Lib.hid ha
            have HCb := Lib.hid hb
            have HF := Lib.hid hf
            clear hS ha hb hf hq hv
            go_wp2_with fail
            refine (HCa.out).mono ?_
            rintro e w1 ⟨rfl, rfl⟩
            go_wp2_with fail
            refine (HCb.out).mono ?_
            rintro e w1 ⟨rfl, rfl⟩
            go_wp2_with fail
            refine (HF.out).mono ?_
            rintro e w1 ⟨rfl, rfl⟩
            go_wp2
            go_roundw
            case rel => exact ⟨k + 1, s, A2, c2, by omega, by go_num, rfl, by show _ = _; rw [HS.out]; exact hs.out, by omega, by rw [HS.out]; exact HO.out, hB⟩
            case measure => simp [intOf]; omega
          · rw [hv] at hf hS
            simp only [if_true] at hS
            have HS := Lib.hid hS
            have HCa := Lib.hid ha
            have HCb := Lib.hid hb
            have HF := Lib.hid hf
            have HO1 := Lib.hid (HO.out.alloc (.cells #[.int .i64 (k : Int)] 2))
            clear hS ha hb hf hq hv
            go_wp2_with fail
            refine (HCa.out).mono ?_
            rintro e w1 ⟨rfl, rfl⟩
            go_wp2_with fail
            refine (HCb.out).mono ?_
            rintro e w1 ⟨rfl, rfl⟩
            go_wp2_with fail
            refine (HF.out).mono ?_
            rintro e w1 ⟨rfl, rfl⟩
            go_wp2_with (at_builtin; refine wpI_append rfl _ _ rfl w.heap.size _ _ _ (fltTo xs ys f k) (k : Int) wr.heap.size rfl rfl hs.out HO1.out (World.cell?_alloc_at _ _ _ _ rfl) (by omega) (by simp; omega) ?_; intro A3 c3 w2 ho2 hg2 ha2)
            have hB2 : Below w.heap.size w w2 := (hB.alloc hz _).trans (below_blk HO1.out hg2 (Nat.le_refl _) (by simp; omega))
            have HO2 := Lib.hid ho2
            clear ho2 hg2 ha2
            go_wp2
            go_roundw
            case rel => exact ⟨k + 1, s + 1, A3, c3, by omega, by go_num, rfl, by show _ = _; rw [HS.out, List.length_append, hs.out]; rfl, by omega, by rw [HS.out]; exact HO2.out, hB2⟩
            case measure => simp [intOf]; omega
        · obtain rfl : k = 32 := by omega
          go_wp2
          go_ret
          exact ⟨⟨A2, s, c2, rfl, hs.out, HO.out⟩, hB⟩

/-- The common numbers. -/
def meetL (xs ys : List Int) : List Int := filtL xs ys (fun p q => p && q)
def minusL (xs ys : List Int) : List Int := filtL xs ys (fun p q => p && !q)
def unionL (xs ys : List Int) : List Int := filtL xs ys (fun p q => p || q)
theorem MeetSets1_c (W : World) (p q : Bool) : Calls Tryz.prog 84 #[.bool p, .bool q] W fun e w' => e = .returned (.bool (p && q)) ∧ W = w' := by
  cases p <;> cases q
  all_goals
    go_enter Tryz.func84, Tryz.ntmps84
    go_wp2
    go_ret
    exact ⟨rfl, rfl⟩
theorem MinusSets1_c (W : World) (p q : Bool) : Calls Tryz.prog 69 #[.bool p, .bool q] W fun e w' => e = .returned (.bool (p && !q)) ∧ W = w' := by
  cases p <;> cases q
  all_goals
    go_enter Tryz.func69, Tryz.ntmps69
    go_wp2
    go_ret
    exact ⟨rfl, rfl⟩
theorem UnionSets1_c (W : World) (p q : Bool) : Calls Tryz.prog 67 #[.bool p, .bool q] W fun e w' => e = .returned (.bool (p || q)) ∧ W = w' := by
  cases p <;> cases q
  all_goals
    go_enter Tryz.func67, Tryz.ntmps67
    go_wp2
    go_ret
    exact ⟨rfl, rfl⟩
theorem MeetSets_c (w : World) (A B : Option Addr) (n m c d : Nat) (xs ys : List Int) (hx : RdI w A c xs) (hn : xs.length = n) (hy : RdI w B d ys) (hm : ys.length = m) :
    Calls Tryz.prog 55 #[.slice A n c, .slice B m d] w (PostS w (meetL xs ys)) := by
  have eg := enters_of Tryz.func84 (by kernel_rfl) rfl
  have HC := Lib.hid (filtered_c w A B n m c d xs ys 84 #[] (fun p q => p && q) eg hx hn hy hm (fun W p q => MeetSets1_c W p q))
  rw [show meetL xs ys = filtL xs ys (fun p q => p && q) from rfl]
  clear hx hn hy hm eg
  go_enter Tryz.func55, Tryz.ntmps55
  go_wp2_with fail
  refine (HC.out).mono ?_
  rintro e w' ⟨⟨A2, n2, c2, rfl, hn2, ho⟩, hb⟩
  have HN := Lib.hid hn2
  have HO := Lib.hid ho
  clear hn2 ho
  go_wp2
  go_ret
  exact ⟨⟨A2, n2, c2, rfl, HN.out, HO.out⟩, hb⟩
theorem MinusSets_c (w : World) (A B : Option Addr) (n m c d : Nat) (xs ys : List Int) (hx : RdI w A c xs) (hn : xs.length = n) (hy : RdI w B d ys) (hm : ys.length = m) :
    Calls Tryz.prog 36 #[.slice A n c, .slice B m d] w (PostS w (minusL xs ys)) := by
  have eg := enters_of Tryz.func69 (by kernel_rfl) rfl
  have HC := Lib.hid (filtered_c w A B n m c d xs ys 69 #[] (fun p q => p && !q) eg hx hn hy hm (fun W p q => MinusSets1_c W p q))
  rw [show minusL xs ys = filtL xs ys (fun p q => p && !q) from rfl]
  clear hx hn hy hm eg
  go_enter Tryz.func36, Tryz.ntmps36
  go_wp2_with fail
  refine (HC.out).mono ?_
  rintro e w' ⟨⟨A2, n2, c2, rfl, hn2, ho⟩, hb⟩
  have HN := Lib.hid hn2
  have HO := Lib.hid ho
  clear hn2 ho
  go_wp2
  go_ret
  exact ⟨⟨A2, n2, c2, rfl, HN.out, HO.out⟩, hb⟩
theorem UnionSets_c (w : World) (A B : Option Addr) (n m c d : Nat) (xs ys : List Int) (hx : RdI w A c xs) (hn : xs.length = n) (hy : RdI w B d ys) (hm : ys.length = m) :
    Calls Tryz.prog 34 #[.slice A n c, .slice B m d] w (PostS w (unionL xs ys)) := by
  have eg := enters_of Tryz.func67 (by kernel_rfl) rfl
  have HC := Lib.hid (filtered_c w A B n m c d xs ys 67 #[] (fun p q => p || q) eg hx hn hy hm (fun W p q => UnionSets1_c W p q))
  rw [show unionL xs ys = filtL xs ys (fun p q => p || q) from rfl]
  clear hx hn hy hm eg
  go_enter Tryz.func34, Tryz.ntmps34
  go_wp2_with fail
  refine (HC.out).mono ?_
  rintro e w' ⟨⟨A2, n2, c2, rfl, hn2, ho⟩, hb⟩
  have HN := Lib.hid hn2
  have HO := Lib.hid ho
  clear hn2 ho
  go_wp2
  go_ret
  exact ⟨⟨A2, n2, c2, rfl, HN.out, HO.out⟩, hb⟩
end Go.Proofs.YtmmkmkbpgcbehaaGreat

/-
  Rising lists as sets: two rising lists with the same members are one; what meet and minus are then. No program in sight. Conditions: those of each theorem.
-/
namespace Go.Proofs.YtmmkmkbpgcbehaaGreat
set_option linter.unusedVariables false
set_option linter.unusedSimpArgs false

theorem rise_ext {xs ys : List Int} (hx : xs.Pairwise (· < ·)) (hy : ys.Pairwise (· < ·)) (h : ∀ z, z ∈ xs ↔ z ∈ ys) : xs = ys := by
  induction xs generalizing ys with
  | nil =>
    cases ys with
    | nil => rfl
    | cons y l => exact absurd ((h y).2 (by simp)) (by simp)
  | cons x m ih =>
    cases ys with
    | nil => exact absurd ((h x).1 (by simp)) (by simp)
    | cons y l =>
      rw [List.pairwise_cons] at hx hy
      have hxy : x = y := by
        have h1 := (h x).1 (by simp)
        have h2 := (h y).2 (by simp)
        rw [List.mem_cons] at h1 h2
        rcases h1 with h1 | h1
        · exact h1
        · rcases h2 with h2 | h2
          · exact h2.symm
          · have := hx.1 y h2
            have := hy.1 x h1
            omega
      subst hxy
      congr 1
      refine ih hx.2 hy.2 fun z => ?_
      have hz := h z
      rw [List.mem_cons, List.mem_cons] at hz
      constructor
      · intro hm
        rcases hz.1 (.inr hm) with e | e
        · subst e; have := hx.1 z hm; omega
        · exact e
      · intro hm
        rcases hz.2 (.inr hm) with e | e
        · subst e; have := hy.1 z hm; omega
        · exact e

theorem RiseTo.lt {lo hi : Int} {xs : List Int} {k : Nat} (h : RiseTo lo hi xs k) {i : Nat} : ∀ j, j < k → i < j → nth xs i < nth xs j := by
  intro j
  induction j with
  | zero => intro _ h'; omega
  | succ j ih =>
    intro hj hij
    have h1 := (h (j + 1) hj).2 (by omega)
    rw [Nat.add_sub_cancel] at h1
    by_cases e : i = j
    · subst e; exact h1
    · have := ih (by omega) (by omega); omega
theorem RiseTo.pairwise {lo hi : Int} {xs : List Int} (h : RiseTo lo hi xs xs.length) : xs.Pairwise (· < ·) := by
  rw [List.pairwise_iff_getElem]
  intro i j hi hj hij
  have := h.lt j hj hij
  rwa [nth_eq hi, nth_eq hj] at this
theorem RiseTo.mem {lo hi : Int} {xs : List Int} (h : RiseTo lo hi xs xs.length) {z : Int} (hz : z ∈ xs) : lo ≤ z ∧ z ≤ hi := by
  obtain ⟨k, hk, rfl⟩ := mem_nth.1 hz
  exact (h k hk).1
theorem rise_of {lo hi : Int} {xs : List Int} (h : xs.Pairwise (· < ·)) (hm : ∀ z ∈ xs, lo ≤ z ∧ z ≤ hi) : RiseTo lo hi xs xs.length := fun j hj => by
  refine ⟨?_, fun h0 => ?_⟩
  · rw [nth_eq hj]; exact hm _ (List.getElem_mem hj)
  · rw [nth_eq hj, nth_eq (by omega)]
    exact List.pairwise_iff_getElem.1 h _ _ (by omega) hj (by omega)
theorem setB_iff {xs : List Int} {n : Int} : setB xs n = true ↔ xs.Pairwise (· < ·) ∧ (∀ z ∈ xs, 0 ≤ z ∧ z < n) ∧ 0 ≤ n ∧ n ≤ 32 := by
  unfold setB
  rw [decide_eq_true_eq]
  constructor
  · rintro ⟨h, h1, h2⟩
    exact ⟨h.pairwise, fun z hz => by have := h.mem hz; omega, h1, h2⟩
  · rintro ⟨h, hm, h1, h2⟩
    exact ⟨rise_of h fun z hz => by have := hm z hz; omega, h1, h2⟩
theorem setB_more {xs : List Int} {n m : Int} (h : setB xs n = true) (h1 : n ≤ m) (h2 : m ≤ 32) : setB xs m = true := by
  rw [setB_iff] at h ⊢
  exact ⟨h.1, fun z hz => by have := h.2.1 z hz; omega, by omega, h2⟩
theorem blockB_set {xs : List Int} {n : Int} (h : blockB xs n = true) : setB xs n = true := by
  unfold blockB at h
  rw [Bool.and_eq_true] at h
  exact h.2
theorem blockB_pos {xs : List Int} {n : Int} (h : blockB xs n = true) : 0 < xs.length := by
  unfold blockB at h
  rw [Bool.and_eq_true] at h
  exact of_decide_eq_true h.1

theorem mem_fltTo {xs ys : List Int} {g : Bool → Bool → Bool} {k : Nat} {z : Int} : z ∈ fltTo xs ys g k ↔ (0 ≤ z ∧ z < (k : Int)) ∧ g (hasB xs z) (hasB ys z) = true := by
  unfold fltTo
  rw [List.mem_map]
  constructor
  · rintro ⟨j, hj, rfl⟩
    rw [List.mem_filter, List.mem_range] at hj
    exact ⟨by omega, hj.2⟩
  · rintro ⟨⟨h0, h1⟩, h2⟩
    refine ⟨z.toNat, ?_, by omega⟩
    rw [List.mem_filter, List.mem_range]
    refine ⟨by omega, ?_⟩
    unfold fltB
    rw [show ((z.toNat : Nat) : Int) = z by omega]
    exact h2
theorem fltTo_rise (xs ys : List Int) (g : Bool → Bool → Bool) (k : Nat) : (fltTo xs ys g k).Pairwise (· < ·) := by
  unfold fltTo
  rw [List.pairwise_map]
  refine List.Pairwise.filter _ ?_
  refine List.Pairwise.imp ?_ List.pairwise_lt_range
  intro a b h
  omega
theorem filter_rise {xs : List Int} (h : xs.Pairwise (· < ·)) (p : Int → Bool) : (xs.filter p).Pairwise (· < ·) := h.filter p
theorem meetL_eq {xs ys : List Int} (hx : setB xs 32 = true) (hy : setB ys 32 = true) : meetL xs ys = ys.filter (hasB xs) := by
  unfold meetL filtL
  rw [if_pos ⟨hx, hy⟩]
  have h2 := setB_iff.1 hy
  refine rise_ext (fltTo_rise _ _ _ _) (filter_rise h2.1 _) fun z => ?_
  rw [mem_fltTo, List.mem_filter, Bool.and_eq_true, hasB_true, hasB_true]
  constructor
  · rintro ⟨_, h3, h4⟩; exact ⟨h4, h3⟩
  · rintro ⟨h3, h4⟩; exact ⟨h2.2.1 z h3, h4, h3⟩
theorem meetL_eq' {xs ys : List Int} (hx : setB xs 32 = true) (hy : setB ys 32 = true) : meetL xs ys = xs.filter (hasB ys) := by
  unfold meetL filtL
  rw [if_pos ⟨hx, hy⟩]
  have h2 := setB_iff.1 hx
  refine rise_ext (fltTo_rise _ _ _ _) (filter_rise h2.1 _) fun z => ?_
  rw [mem_fltTo, List.mem_filter, Bool.and_eq_true, hasB_true, hasB_true]
  constructor
  · rintro ⟨_, h3, h4⟩; exact ⟨h3, h4⟩
  · rintro ⟨h3, h4⟩; exact ⟨h2.2.1 z h3, h3, h4⟩
theorem minusL_eq {xs ys : List Int} (hx : setB xs 32 = true) (hy : setB ys 32 = true) : minusL xs ys = xs.filter (fun z => !hasB ys z) := by
  unfold minusL filtL
  rw [if_pos ⟨hx, hy⟩]
  have h2 := setB_iff.1 hx
  refine rise_ext (fltTo_rise _ _ _ _) (filter_rise h2.1 _) fun z => ?_
  rw [mem_fltTo, List.mem_filter, Bool.and_eq_true, hasB_true]
  constructor
  · rintro ⟨_, h3, h4⟩; exact ⟨h3, h4⟩
  · rintro ⟨h3, h4⟩; exact ⟨h2.2.1 z h3, h3, h4⟩
end Go.Proofs.YtmmkmkbpgcbehaaGreat

/-
  Slices of bool that a call made: what they hold, stores; slices.Index and slices.Contains over them. Conditions: those of each theorem.
-/
namespace Go.Proofs.YtmmkmkbpgcbehaaGreat
open Go.RowKit
set_option linter.unusedVariables false
set_option linter.unusedSimpArgs false

theorem infoB : (Tryz.prog.info? 4).map (fun i => (i.zero, i.size, i.bytes)) = some (some (.bool false), 1, 1) := by kernel_rfl

def flag (bs : List Bool) (k : Nat) : Bool := (bs[k]?).getD false
theorem flag_eq {bs : List Bool} {k : Nat} (h : k < bs.length) : flag bs k = bs[k] := by simp [flag, h]

/-- Block g (from lo on) is a row of the flags bs, the call's own. -/
def OwnB (w : World) (lo g n : Nat) (bs : List Bool) : Prop :=
  w.ownsRow lo 4 1 (.slice (some ⟨g, 0, none⟩) n n) n (bs.map Value.bool) ∧ bs.length = n

section
variable {w w' : World} {lo lo' g n : Nat} {bs : List Bool}
theorem OwnB.lt (h : OwnB w lo g n bs) : lo ≤ g ∧ g < w.heap.size := by
  rcases h.1.2 with ⟨e, _⟩ | ⟨g', c, cur, e, hg, hh, _⟩
  · simp at e
  · simp only [Value.slice.injEq, Option.some.injEq, Addr.mk.injEq, and_true] at e
    obtain ⟨rfl, _⟩ := e
    exact ⟨hg, (Array.getElem?_eq_some_iff.1 hh).1⟩
theorem OwnB.of_block (h : OwnB w lo g n bs) (hb : w'.heap[g]? = w.heap[g]?) : OwnB w' lo g n bs := by
  refine ⟨⟨h.1.1, ?_⟩, h.2⟩
  rcases h.1.2 with hn | ⟨g', c, cur, e, hg, hh, r⟩
  · exact .inl hn
  · refine .inr ⟨g', c, cur, e, hg, ?_, r⟩
    simp only [Value.slice.injEq, Option.some.injEq, Addr.mk.injEq, and_true] at e
    obtain ⟨rfl, _⟩ := e
    rw [hb]
    exact hh
theorem OwnB.below (h : OwnB w lo g n bs) (hb : Below w.heap.size w w') : OwnB w' lo g n bs := h.of_block (hb.block g h.lt.2)
theorem OwnB.drewN (h : OwnB w lo g n bs) (m : Nat) : OwnB (w.drewN m) lo g n bs := h
theorem OwnB.alloc (h : OwnB w lo g n bs) (o : Obj) : OwnB (w.alloc o) lo g n bs := h.of_block (Below.heap_alloc w o g h.lt.2)
theorem OwnB.lower (h : OwnB w lo g n bs) (hl : lo' ≤ lo) : OwnB w lo' g n bs := by
  refine ⟨⟨h.1.1, ?_⟩, h.2⟩
  rcases h.1.2 with hn | ⟨g', c, cur, e, hg, r⟩
  · exact .inl hn
  · exact .inr ⟨g', c, cur, e, by omega, r⟩
theorem OwnB.setCell_other (h : OwnB w lo g n bs) {p : Addr} (hp : g ≠ p.block) (u : Value) : OwnB (w.setCell p u) lo g n bs := h.of_block (Below.heap_setCell w p u g hp)
theorem OwnB.at_ (h : OwnB w lo g n bs) {k : Nat} (hk : k < n) : w.cell? ⟨g, k, none⟩ = some (.bool (flag bs k)) ∧ w.frozen? ⟨g, k, none⟩ = false := by
  refine ⟨?_, World.ownsRow.frozenAt h.1 k⟩
  rw [World.ownsRow.cellAt h.1 k (by omega)]
  have := h.2
  simp [flag, show k < bs.length by omega]
theorem OwnB.stored (h : OwnB w lo g n bs) (j : Nat) (x : Bool) : OwnB (w.setCell ⟨g, j, none⟩ (.bool x)) lo g n (bs.set j x) := by
  refine ⟨?_, by rw [List.length_set]; exact h.2⟩
  rw [List.map_set]
  exact (World.ownsRow.stored h.1 j (.bool x)).1
theorem OwnB.made (w : World) (n : Nat) (hn : n ≤ maxLen) {lo : Nat} (hlo : lo ≤ w.heap.size) : OwnB (w.alloc (.cells (madeCells #[.bool false] n) 4)) lo w.heap.size n (List.replicate n false) := by
  have := World.ownsRow_lit (e := 4) (size := 1) w (madeCells #[.bool false] n) n hlo hn (by rw [size_madeCells]; omega)
  rw [toList_madeCells_one] at this
  refine ⟨?_, by simp⟩
  simpa using this
theorem Below.setCell_at {B : Nat} (h : Below B w w') {p : Addr} (hp : B ≤ p.block) (u : Value) : Below B w (w'.setCell p u) := h.setCell hp u
end

/-- What is read of flags: block b holds them from off on. -/
def RdB (w : World) (A : Option Addr) (n : Nat) (bs : List Bool) : Prop := bs.length = n ∧ ∀ k, k < n → ∃ b off, A = some ⟨b, off, none⟩ ∧ b < w.heap.size ∧ w.cell? ⟨b, off + k, none⟩ = some (.bool (flag bs k))
theorem OwnB.rd {w : World} {lo g n : Nat} {bs : List Bool} (h : OwnB w lo g n bs) : RdB w (some ⟨g, 0, none⟩) n bs :=
  ⟨h.2, fun k hk => ⟨g, 0, rfl, h.lt.2, by rw [Nat.zero_add]; exact (h.at_ hk).1⟩⟩

def idxF (bs : List Bool) (x : Bool) (k : Nat) : Bool := decide (flag bs k = x)

theorem anyTo_idx (p : Nat → Bool) (n : Nat) : anyTo p n = decide (0 ≤ firstIdx p n) := by
  rcases h : anyTo p n with _ | _
  · symm
    refine decide_eq_false ?_
    rw [firstIdx_miss (anyTo_false.1 h)]
    omega
  · symm
    refine decide_eq_true ?_
    obtain ⟨k, hk, hp⟩ := anyTo_true.1 h
    unfold firstIdx
    rcases hf : (List.range n).find? p with _ | j
    · have := List.find?_eq_none.1 hf k (List.mem_range.2 hk)
      rw [hp] at this
      simp at this
    · simp

/-! ### Which of P points have been met -/

def covV (P : Nat) (L : List Int) : List Bool := (List.range P).map fun (i : Nat) => hasB L (i : Int)
theorem covV_len (P : Nat) (L : List Int) : (covV P L).length = P := by simp [covV]
theorem covV_nil (P : Nat) : covV P [] = List.replicate P false := by
  apply List.ext_getElem
  · simp [covV]
  · intro k h1 h2; simp [covV, hasB]
theorem covV_flag {P : Nat} {L : List Int} {k : Nat} (h : k < P) : flag (covV P L) k = hasB L (k : Int) := by simp [flag, covV, h]
theorem covV_set {P : Nat} {L : List Int} {k : Nat} (h : k < P) : (covV P L).set k true = covV P (L ++ [(k : Int)]) := by
  apply List.ext_getElem
  · simp [covV]
  · intro i h1 h2
    rw [List.getElem_set]
    simp only [covV, List.getElem_map, List.getElem_range]
    by_cases e : k = i
    · subst e; simp [hasB]
    · rw [if_neg e]
      unfold hasB
      refine decide_eq_decide.2 ⟨fun h => by simp [h], fun h => ?_⟩
      rw [List.mem_append] at h
      rcases h with h | h
      · exact h
      · simp at h; omega

/-- Different numbers below P, counted: as many as are met. -/
theorem filter_or_len {R : List Nat} (hR : R.Nodup) {x : Nat} (hx : x ∈ R) {q : Nat → Bool} (hq : q x = false) : (R.filter fun i => q i || decide (i = x)).length = (R.filter q).length + 1 := by
  induction R with
  | nil => simp at hx
  | cons a l ih =>
    rw [List.nodup_cons] at hR
    by_cases e : a = x
    · subst e
      have hno : ∀ i ∈ l, (q i || decide (i = a)) = q i := fun i hi => by
        have : i ≠ a := fun e => hR.1 (e ▸ hi)
        simp [this]
      rw [List.filter_cons, if_pos (by simp), List.filter_cons, if_neg (by simp [hq]), List.filter_congr hno]
      rfl
    · have hx' : x ∈ l := by
        rcases List.mem_cons.1 hx with h | h
        · exact absurd h.symm e
        · exact h
      have := ih hR.2 hx'
      rw [List.filter_cons, List.filter_cons]
      by_cases ha : q a = true
      · rw [if_pos (by simp [ha]), if_pos ha, List.length_cons, List.length_cons, this]
      · rw [if_neg (by simp [ha, e]), if_neg ha, this]
theorem nodup_count {P : Nat} {L : List Int} (hd : L.Nodup) (hb : ∀ x ∈ L, 0 ≤ x ∧ x < (P : Int)) : L.length = ((List.range P).filter fun i => hasB L ((i : Nat) : Int)).length := by
  induction L with
  | nil =>
    rw [List.filter_eq_nil_iff.2 (fun a _ => by simp [hasB])]; rfl
  | cons x l ih =>
    rw [List.nodup_cons] at hd
    have h1 := ih hd.2 (fun y hy => hb y (by simp [hy]))
    have hx := hb x (by simp)
    have h2 := filter_or_len (R := List.range P) List.nodup_range (x := x.toNat) (by rw [List.mem_range]; omega) (q := fun i => hasB l ((i : Nat) : Int)) (by rw [hasB_false, show ((x.toNat : Nat) : Int) = x by omega]; exact hd.1)
    rw [List.length_cons, h1, ← h2]
    congr 1
    refine List.filter_congr fun i _ => ?_
    rw [Bool.eq_iff_iff, Bool.or_eq_true, hasB_true, hasB_true, decide_eq_true_eq, List.mem_cons]
    constructor
    · rintro (h | h)
      · exact .inr h
      · exact .inl (by omega)
    · rintro (h | h)
      · exact .inr (by omega)
      · exact .inl h
/-- They are P in number if each is met. -/
theorem nodup_full {P : Nat} {L : List Int} (hd : L.Nodup) (hb : ∀ x ∈ L, 0 ≤ x ∧ x < (P : Int)) : L.length = P ↔ ∀ i : Nat, i < P → (i : Int) ∈ L := by
  rw [nodup_count hd hb]
  have hl : (List.range P).length = P := List.length_range
  constructor
  · intro h i hi
    have : ((List.range P).filter fun i => hasB L ((i : Nat) : Int)).length = (List.range P).length := by rw [h, hl]
    have := List.length_filter_eq_length_iff.1 this i (List.mem_range.2 hi)
    exact hasB_true.1 this
  · intro h
    have : ((List.range P).filter fun i => hasB L ((i : Nat) : Int)).length = (List.range P).length := List.length_filter_eq_length_iff.2 fun i hi => hasB_true.2 (h i (List.mem_range.1 hi))
    rw [this, hl]
end Go.Proofs.YtmmkmkbpgcbehaaGreat

/-
  Parallel classes: isClass of the program, l14Class of the reference, IsParallelClass of both. Conditions: those of each theorem.
-/
namespace Go.Proofs.YtmmkmkbpgcbehaaGreat
open Go.RowKit
set_option linter.unusedVariables false
set_option linter.unusedSimpArgs false

/-- The points of the first k blocks of a class, one behind the other. -/
def preL (xss : List (List Int)) (cls : List Int) (k : Nat) : List Int := (cls.take k).flatMap fun (i : Int) => row xss i.toNat
theorem preL_zero (xss : List (List Int)) (cls : List Int) : preL xss cls 0 = [] := by simp [preL]
theorem preL_succ {xss : List (List Int)} {cls : List Int} {k : Nat} (h : k < cls.length) : preL xss cls (k + 1) = preL xss cls k ++ row xss (nth cls k).toNat := by
  unfold preL
  rw [take_nth h, List.flatMap_append]
  simp
theorem preL_le {xss : List (List Int)} {cls : List Int} {k m : Nat} (h : k ≤ m) (hm : m ≤ cls.length) : ∃ r, preL xss cls m = preL xss cls k ++ r := by
  induction m with
  | zero => obtain rfl : k = 0 := by omega
            exact ⟨[], by simp⟩
  | succ m ih =>
    by_cases e : k = m + 1
    · subst e; exact ⟨[], by simp⟩
    · obtain ⟨r, hr⟩ := ih (by omega) (by omega)
      refine ⟨r ++ row xss (nth cls m).toNat, ?_⟩
      rw [preL_succ (by omega), hr, List.append_assoc]

/-- The class is one: its indices rise, its blocks part, each point lies in one. -/
def ClassOk (P : Nat) (xss : List (List Int)) (cls : List Int) : Prop :=
  RiseTo 0 ((xss.length : Int) - 1) cls cls.length ∧ (preL xss cls cls.length).Nodup ∧ ∀ i, i < P → (i : Int) ∈ preL xss cls cls.length
instance (P : Nat) (xss : List (List Int)) (cls : List Int) : Decidable (ClassOk P xss cls) := by unfold ClassOk; infer_instance
def classB (P : Nat) (xss : List (List Int)) (cls : List Int) : Bool := decide (ClassOk P xss cls)

theorem rowOk {P : Nat} {xss : List (List Int)} (hD : DsgOk (P : Int) xss) {i : Nat} (hi : i < xss.length) {j : Nat} (hj : j < (row xss i).length) : 0 ≤ nth (row xss i) j ∧ nth (row xss i) j < (P : Int) := by
  have h := setB_iff.1 (blockB_set (hD.2.2 i hi).1)
  exact h.2.1 _ (by rw [nth_eq hj]; exact List.getElem_mem hj)
theorem preL_bd {P : Nat} {xss : List (List Int)} (hD : DsgOk (P : Int) xss) {cls : List Int} (hc : RiseTo 0 ((xss.length : Int) - 1) cls cls.length) {k : Nat} (hk : k ≤ cls.length) : ∀ x ∈ preL xss cls k, 0 ≤ x ∧ x < (P : Int) := by
  intro x hx
  unfold preL at hx
  rw [List.mem_flatMap] at hx
  obtain ⟨i, hi, hx⟩ := hx
  have hm := hc.mem (List.mem_of_mem_take hi)
  obtain ⟨j, hj, rfl⟩ := mem_nth.1 hx
  exact rowOk hD (by omega) hj
/-- A point that is met twice. -/
theorem not_class {P : Nat} {xss : List (List Int)} {cls : List Int} {k j : Nat} (hk : k < cls.length) (hj : j < (row xss (nth cls k).toNat).length)
    (h : nth (row xss (nth cls k).toNat) j ∈ preL xss cls k ++ (row xss (nth cls k).toNat).take j) : classB P xss cls = false := by
  refine decide_eq_false fun hc => ?_
  obtain ⟨r, hr⟩ := preL_le (xss := xss) (cls := cls) (k := k + 1) (m := cls.length) (by omega) (Nat.le_refl _)
  have hd := hc.2.1
  rw [hr, preL_succ hk] at hd
  have h1 := (List.nodup_append.1 hd).1
  rw [← List.take_append_drop (j + 1) (row xss (nth cls k).toNat), ← List.append_assoc] at h1
  have h2 := (List.nodup_append.1 h1).1
  rw [take_nth hj, ← List.append_assoc] at h2
  have h3 := (List.nodup_append.1 h2).2.2 _ h _ (List.mem_singleton.2 rfl)
  exact h3 rfl

theorem nodup_snoc {L : List Int} {x : Int} (h : L.Nodup) (hx : x ∉ L) : (L ++ [x]).Nodup := by
  rw [List.nodup_append]
  refine ⟨h, by simp, ?_⟩
  intro a ha b hb
  rw [List.mem_singleton] at hb
  subst hb
  exact fun e => hx (e ▸ ha)

section
variable {w w' : World} {B : Nat} {p : Int} {A : Option Addr} {n c : Nat}
theorem BoxD.step (h : BoxD w B p A n c) {lo : Nat} (hl : B < lo) (hb : Below lo w w') : BoxD w' B p A n c :=
  ⟨(hb.cell (p := ⟨B, 0, none⟩) hl).trans h.c0, (hb.cell (p := ⟨B, 1, none⟩) hl).trans h.c1⟩
end

theorem preL_len {P : Nat} {xss : List (List Int)} (hD : DsgOk (P : Int) xss) {cls : List Int} (hc : RiseTo 0 ((xss.length : Int) - 1) cls cls.length) {k : Nat} (hk : k ≤ cls.length) (hd : (preL xss cls k).Nodup) : (preL xss cls k).length ≤ P := by
  rw [nodup_count hd (preL_bd hD hc hk)]
  have := List.length_filter_le (fun i => hasB (preL xss cls k) ((i : Nat) : Int)) (List.range P)
  rwa [List.length_range] at this

/-! ### IsParallelClass -/

def isClassB (p : Int) (xss : List (List Int)) (cls : List Int) : Bool := dsgB p xss && classB p.toNat xss cls

end Go.Proofs.YtmmkmkbpgcbehaaGreat

/-
  LineThrough: contracts of the program's and of the reference's functions. Conditions: those of each theorem.
-/
namespace Go.Proofs.YtmmkmkbpgcbehaaGreat
open Go.RowKit
set_option linter.unusedVariables false
set_option linter.unusedSimpArgs false

def lineP (xss : List (List Int)) (a b : Int) (k : Nat) : Bool := hasB (row xss k) a && hasB (row xss k) b
def lineK (xss : List (List Int)) (a b : Int) : Int := firstIdx (lineP xss a b) xss.length
def lineV (p : Int) (xss : List (List Int)) (a b : Int) : Value :=
  if dsgB p xss = false then .tuple #[.int .i64 0, .int .i64 1]
  else if inB a 0 (p - 1) = false ∨ inB b 0 (p - 1) = false then .tuple #[.int .i64 0, .int .i64 2]
  else if lineK xss a b < 0 then .tuple #[.int .i64 0, .int .i64 3]
  else .tuple #[.int .i64 (lineK xss a b), .int .i64 0]

def lineI (p : Int) (xss : List (List Int)) (a b : Int) : Int := if dsgB p xss = false then 0 else if inB a 0 (p - 1) = false ∨ inB b 0 (p - 1) = false then 0 else if lineK xss a b < 0 then 0 else lineK xss a b
def lineC (p : Int) (xss : List (List Int)) (a b : Int) : Int := if dsgB p xss = false then 1 else if inB a 0 (p - 1) = false ∨ inB b 0 (p - 1) = false then 2 else if lineK xss a b < 0 then 3 else 0
theorem lineV_eq (p : Int) (xss : List (List Int)) (a b : Int) : lineV p xss a b = .tuple #[.int .i64 (lineI p xss a b), .int .i64 (lineC p xss a b)] := by
  unfold lineV lineI lineC
  repeat' split
  all_goals rfl

theorem firstIdx_ge (p : Nat → Bool) (n : Nat) : -1 ≤ firstIdx p n := by
  unfold firstIdx
  split <;> omega

end Go.Proofs.YtmmkmkbpgcbehaaGreat

/-
  How many blocks hold two points: as the program counts them and as the reference does. Plain lists, no program in sight. Conditions: those of each theorem.
-/
namespace Go.Proofs.YtmmkmkbpgcbehaaGreat
set_option linter.unusedVariables false
set_option linter.unusedSimpArgs false

open Classical in
noncomputable def ind (p : Prop) : Int := if p then 1 else 0
theorem ind_t {p : Prop} (h : p) : ind p = 1 := by unfold ind; rw [if_pos h]
theorem ind_f {p : Prop} (h : ¬ p) : ind p = 0 := by unfold ind; rw [if_neg h]
theorem ind_c {p q : Prop} (h : p ↔ q) : ind p = ind q := by rw [propext h]
theorem ind_bd (p : Prop) : 0 ≤ ind p ∧ ind p ≤ 1 := by
  by_cases h : p
  · rw [ind_t h]; omega
  · rw [ind_f h]; omega

def sN (s : List Int) (k : Nat) : Nat := (nth s k).toNat
def pstep (f : Nat → Nat → Int) (a b : Nat) : Nat → Nat → Int := upd f a b (f a b + 1)
def pJ (s : List Int) (i : Nat) (f : Nat → Nat → Int) : Nat → Nat → Nat → Int
  | 0 => f
  | j + 1 => pstep (pJ s i f j) (sN s i) (sN s (i + 1 + j))
def pI (s : List Int) (f : Nat → Nat → Int) : Nat → Nat → Nat → Int
  | 0 => f
  | i + 1 => pJ s i (pI s f i) (s.length - (i + 1))
def pS (xss : List (List Int)) : Nat → Nat → Nat → Int
  | 0 => fun _ _ => 0
  | k + 1 => pI (row xss k) (pS xss k) (row xss k).length

/-- Different numbers, none below 0. -/
def Inj (s : List Int) : Prop := ∀ i j, i < s.length → j < s.length → sN s i = sN s j → i = j
theorem inj_of {s : List Int} {p : Int} (h : setB s p = true) : Inj s := by
  intro i j hi hj e
  have h1 := of_decide_eq_true h
  have bi := (h1.1 i hi).1
  have bj := (h1.1 j hj).1
  unfold sN at e
  rcases Nat.lt_trichotomy i j with hlt | hlt | hlt
  · have := h1.1.lt j hj hlt; omega
  · exact hlt
  · have := h1.1.lt i hi hlt; omega

theorem pJ_val {s : List Int} (hs : Inj s) {i : Nat} (f : Nat → Nat → Int) (j : Nat) (hj : i + 1 + j ≤ s.length) (x y : Nat) :
    pJ s i f j x y = f x y + ind (x = sN s i ∧ ∃ j', j' < j ∧ y = sN s (i + 1 + j')) := by
  induction j generalizing x y with
  | zero => rw [ind_f (by rintro ⟨_, j', h, _⟩; omega)]; simp [pJ]
  | succ j ih =>
    have hj' : i + 1 + j ≤ s.length := by omega
    simp only [pJ, pstep, upd]
    by_cases e : x = sN s i ∧ y = sN s (i + 1 + j)
    · obtain ⟨rfl, rfl⟩ := e
      rw [if_pos ⟨rfl, rfl⟩, ih hj', ind_f, ind_t ⟨rfl, j, by omega, rfl⟩]
      · omega
      · rintro ⟨_, j', h, e⟩
        have := hs _ _ (by omega) (by omega) e
        omega
    · rw [if_neg e, ih hj']
      congr 1
      refine ind_c ⟨fun ⟨h1, j', h, h2⟩ => ⟨h1, j', by omega, h2⟩, fun ⟨h1, j', h, h2⟩ => ⟨h1, j', ?_, h2⟩⟩
      by_cases e' : j' = j
      · subst e'; exact absurd ⟨h1, h2⟩ e
      · omega
theorem pI_val {s : List Int} (hs : Inj s) (f : Nat → Nat → Int) (i : Nat) (hi : i ≤ s.length) (x y : Nat) :
    pI s f i x y = f x y + ind (∃ i', i' < i ∧ x = sN s i' ∧ ∃ j', i' < j' ∧ j' < s.length ∧ y = sN s j') := by
  induction i generalizing x y with
  | zero => rw [ind_f (by rintro ⟨i', h, _⟩; omega)]; simp [pI]
  | succ i ih =>
    have hi' : i ≤ s.length := by omega
    simp only [pI]
    rw [pJ_val hs _ _ (by omega), ih hi']
    by_cases e : x = sN s i ∧ ∃ j', j' < s.length - (i + 1) ∧ y = sN s (i + 1 + j')
    · obtain ⟨e1, j', h1, h2⟩ := e
      have t1 : ind (x = sN s i ∧ ∃ j', j' < s.length - (i + 1) ∧ y = sN s (i + 1 + j')) = 1 := ind_t ⟨e1, j', h1, h2⟩
      have t2 : ind (∃ i', i' < i ∧ x = sN s i' ∧ ∃ j', i' < j' ∧ j' < s.length ∧ y = sN s j') = 0 := ind_f (by
        rintro ⟨i', h3, h4, _⟩
        have := hs i' i (by omega) (by omega) (h4.symm.trans e1)
        omega)
      have t3 : ind (∃ i', i' < i + 1 ∧ x = sN s i' ∧ ∃ j', i' < j' ∧ j' < s.length ∧ y = sN s j') = 1 := ind_t ⟨i, by omega, e1, i + 1 + j', by omega, by omega, h2⟩
      rw [t1, t2, t3]
      omega
    · have t1 : ind (x = sN s i ∧ ∃ j', j' < s.length - (i + 1) ∧ y = sN s (i + 1 + j')) = 0 := ind_f e
      rw [t1, Int.add_zero]
      congr 1
      refine ind_c ⟨fun ⟨i', h, r⟩ => ⟨i', by omega, r⟩, fun ⟨i', h, h1, j', h2, h3, h4⟩ => ⟨i', ?_, h1, j', h2, h3, h4⟩⟩
      by_cases e' : i' = i
      · subst e'
        exact absurd ⟨h1, j' - (i' + 1), by omega, by rw [h4]; congr 1; omega⟩ e
      · omega

def RowsOk (P : Nat) (xss : List (List Int)) : Prop := ∀ k, k < xss.length → setB (row xss k) (P : Int) = true
theorem DsgOk.rows {P : Nat} {xss : List (List Int)} (h : DsgOk (P : Int) xss) : RowsOk P xss := fun k hk => blockB_set (h.2.2 k hk).1

theorem pS_bd {P : Nat} {xss : List (List Int)} (h : RowsOk P xss) (k : Nat) (hk : k ≤ xss.length) (x y : Nat) : 0 ≤ pS xss k x y ∧ pS xss k x y ≤ (k : Int) := by
  induction k with
  | zero => simp [pS]
  | succ k ih =>
    have h1 := ih (by omega)
    simp only [pS]
    rw [pI_val (inj_of (h k (by omega))) _ _ (Nat.le_refl _)]
    have := ind_bd (∃ i', i' < (row xss k).length ∧ x = sN (row xss k) i' ∧ ∃ j', i' < j' ∧ j' < (row xss k).length ∧ y = sN (row xss k) j')
    omega
theorem pJ_bd {P : Nat} {xss : List (List Int)} (h : RowsOk P xss) {k : Nat} (hk : k < xss.length) {i j : Nat} (hi : i + 1 + j ≤ (row xss k).length) (x y : Nat) :
    0 ≤ pJ (row xss k) i (pI (row xss k) (pS xss k) i) j x y ∧ pJ (row xss k) i (pI (row xss k) (pS xss k) i) j x y ≤ (k : Int) + 2 := by
  rw [pJ_val (inj_of (h k hk)) _ _ hi, pI_val (inj_of (h k hk)) _ _ (by omega)]
  have h1 := pS_bd h k (by omega) x y
  have h2 := ind_bd (∃ i', i' < i ∧ x = sN (row xss k) i' ∧ ∃ j', i' < j' ∧ j' < (row xss k).length ∧ y = sN (row xss k) j')
  have h3 := ind_bd (x = sN (row xss k) i ∧ ∃ j', j' < j ∧ y = sN (row xss k) (i + 1 + j'))
  omega

/-- How many of the first k blocks hold a and b. -/
def cntP (xss : List (List Int)) (a b : Int) (k : Nat) : Nat := ((List.range k).filter (lineP xss a b)).length
theorem cntP_succ (xss : List (List Int)) (a b : Int) (k : Nat) : cntP xss a b (k + 1) = cntP xss a b k + if lineP xss a b k = true then 1 else 0 := by
  unfold cntP
  rw [List.range_succ, List.filter_append, List.length_append]
  by_cases e : lineP xss a b k = true <;> simp [List.filter_cons, e]
theorem cntP_le (xss : List (List Int)) (a b : Int) (k : Nat) : cntP xss a b k ≤ k := by
  unfold cntP
  have := List.length_filter_le (lineP xss a b) (List.range k)
  rwa [List.length_range] at this

theorem mem_sN {s : List Int} {p : Int} (h : setB s p = true) {x : Nat} : (x : Int) ∈ s ↔ ∃ i, i < s.length ∧ x = sN s i := by
  have h1 := of_decide_eq_true h
  constructor
  · intro hx
    obtain ⟨i, hi, e⟩ := mem_nth.1 hx
    exact ⟨i, hi, by unfold sN; omega⟩
  · rintro ⟨i, hi, e⟩
    refine mem_nth.2 ⟨i, hi, ?_⟩
    have := (h1.1 i hi).1
    unfold sN at e
    omega
theorem pS_cnt {P : Nat} {xss : List (List Int)} (h : RowsOk P xss) (k : Nat) (hk : k ≤ xss.length) {x y : Nat} (hxy : x < y) : pS xss k x y = (cntP xss (x : Int) (y : Int) k : Nat) := by
  induction k with
  | zero => simp [pS, cntP]
  | succ k ih =>
    have hr := h k (by omega)
    have h1 := of_decide_eq_true hr
    simp only [pS]
    rw [pI_val (inj_of hr) _ _ (Nat.le_refl _), ih (by omega), cntP_succ]
    by_cases e : lineP xss (x : Int) (y : Int) k = true
    · rw [if_pos e]
      unfold lineP at e
      rw [Bool.and_eq_true, hasB_true, hasB_true, mem_sN hr, mem_sN hr] at e
      obtain ⟨⟨i, hi, e1⟩, j, hj, e2⟩ := e
      have hij : i < j := by
        rcases Nat.lt_or_ge i j with hl | hl
        · exact hl
        · exfalso
          unfold sN at e1 e2
          by_cases e' : i = j
          · subst e'; omega
          · have := h1.1.lt i hi (show j < i by omega)
            have := (h1.1 i hi).1
            have := (h1.1 j hj).1
            omega
      rw [ind_t ⟨i, hi, e1, j, hij, hj, e2⟩, Int.natCast_add]
      rfl
    · rw [if_neg e, ind_f, Int.add_zero, Nat.add_zero]
      rintro ⟨i, hi, e1, j, _, hj, e2⟩
      apply e
      unfold lineP
      rw [Bool.and_eq_true, hasB_true, hasB_true, mem_sN hr, mem_sN hr]
      exact ⟨⟨i, hi, e1⟩, j, hj, e2⟩

/-- The numbers of f above the diagonal, the first k rows. -/
def pairsTo (P : Nat) (f : Nat → Nat → Int) (k : Nat) : List Int := (List.range k).flatMap fun x => (rowTo f x P).drop (x + 1)
theorem pairsTo_succ (P : Nat) (f : Nat → Nat → Int) (k : Nat) : pairsTo P f (k + 1) = pairsTo P f k ++ (rowTo f k P).drop (k + 1) := by
  unfold pairsTo
  rw [List.range_succ, List.flatMap_append]
  simp
theorem pairsTo_len (P : Nat) (f : Nat → Nat → Int) (k : Nat) : (pairsTo P f k).length ≤ k * P := by
  induction k with
  | zero => simp [pairsTo]
  | succ k ih =>
    rw [pairsTo_succ, List.length_append, List.length_drop, length_rowTo, Nat.succ_mul]
    omega
theorem rowTo_drop_congr {P : Nat} {f g : Nat → Nat → Int} {x k : Nat} (h : ∀ y, k ≤ y → y < P → f x y = g x y) : (rowTo f x P).drop k = (rowTo g x P).drop k := by
  apply List.ext_getElem
  · simp [length_rowTo]
  · intro i h1 h2
    rw [List.getElem_drop, List.getElem_drop]
    rw [List.length_drop, length_rowTo] at h1
    simp only [rowTo, List.getElem_map, List.getElem_range]
    exact h _ (by omega) (by omega)
theorem pairsTo_congr {P : Nat} {f g : Nat → Nat → Int} (h : ∀ x y, x < y → y < P → f x y = g x y) (k : Nat) : pairsTo P f k = pairsTo P g k := by
  unfold pairsTo
  congr 1
  funext x
  exact rowTo_drop_congr fun y h1 h2 => h x y (by omega) h2
def cntF (xss : List (List Int)) (x y : Nat) : Int := (cntP xss (x : Int) (y : Int) xss.length : Nat)
/-- The numbers of blocks with each two points. -/
def pairL (P : Nat) (xss : List (List Int)) : List Int := pairsTo P (cntF xss) P
theorem pairL_eq {P : Nat} {xss : List (List Int)} (h : RowsOk P xss) : pairsTo P (pS xss xss.length) P = pairL P xss :=
  pairsTo_congr (fun x y hxy _ => pS_cnt h xss.length (Nat.le_refl _) hxy) P
theorem pairL_len (P : Nat) (xss : List (List Int)) : (pairL P xss).length ≤ P * P := pairsTo_len P _ P

/-! ### Replications -/

def bump (t : List Int) (i : Nat) : List Int := t.set i (nth t i + 1)
def rpB (s t : List Int) : Nat → List Int
  | 0 => t
  | j + 1 => bump (rpB s t j) (sN s j)
def rpS (P : Nat) (xss : List (List Int)) : Nat → List Int
  | 0 => List.replicate P 0
  | k + 1 => rpB (row xss k) (rpS P xss k) (row xss k).length
theorem bump_len (t : List Int) (i : Nat) : (bump t i).length = t.length := by simp [bump]
theorem rpB_len (s t : List Int) (j : Nat) : (rpB s t j).length = t.length := by
  induction j with
  | zero => rfl
  | succ j ih => simp only [rpB]; rw [bump_len, ih]
theorem rpS_len (P : Nat) (xss : List (List Int)) (k : Nat) : (rpS P xss k).length = P := by
  induction k with
  | zero => simp [rpS]
  | succ k ih => simp only [rpS]; rw [rpB_len, ih]
def UpT (t : List Int) (C : Int) : Prop := ∀ i, 0 ≤ nth t i ∧ nth t i ≤ C
theorem UpT.bump {t : List Int} {C : Int} (h : UpT t C) (i : Nat) : UpT (bump t i) (C + 1) := fun j => by
  have h1 := h i
  have h2 := h j
  unfold Go.Proofs.YtmmkmkbpgcbehaaGreat.bump nth
  rw [List.getElem?_set]
  unfold nth at h1 h2
  split
  · split
    · simp only [Option.getD_some]; omega
    · simp only [Option.getD_none]; omega
  · omega
theorem UpT.rpB {s t : List Int} {C : Int} (h : UpT t C) (j : Nat) : UpT (rpB s t j) (C + j) := by
  induction j with
  | zero => simpa [Go.Proofs.YtmmkmkbpgcbehaaGreat.rpB] using h
  | succ j ih =>
    have := ih.bump (sN s j)
    simp only [Go.Proofs.YtmmkmkbpgcbehaaGreat.rpB]
    rw [show C + ((j + 1 : Nat) : Int) = C + (j : Int) + 1 by omega]
    exact this
theorem UpT.rpS {P : Nat} {xss : List (List Int)} (hs : ∀ k, k < xss.length → (row xss k).length ≤ 32) (k : Nat) (hk : k ≤ xss.length) : UpT (rpS P xss k) (32 * k) := by
  induction k with
  | zero =>
    intro i
    simp only [Go.Proofs.YtmmkmkbpgcbehaaGreat.rpS, nth, List.getElem?_replicate]
    split <;> simp
  | succ k ih =>
    have h1 := (ih (by omega)).rpB (s := row xss k) (row xss k).length
    have h2 := hs k (by omega)
    simp only [Go.Proofs.YtmmkmkbpgcbehaaGreat.rpS]
    intro i
    have := h1 i
    omega
theorem setB_len {xs : List Int} {P : Nat} (h : setB xs (P : Int) = true) : xs.length ≤ P := by
  have h1 := setB_iff.1 h
  have h2 := nodup_count (P := P) (L := xs) (by
    refine List.Pairwise.imp ?_ h1.1
    intro a b h e; omega) h1.2.1
  have h3 := List.length_filter_le (fun i => hasB xs ((i : Nat) : Int)) (List.range P)
  rw [List.length_range] at h3
  omega
end Go.Proofs.YtmmkmkbpgcbehaaGreat

/-
  How many blocks hold two points, and one: pairCounts, replicationsOf of the program, l10Pairs, l10Replications of the reference. Conditions: those of each theorem.
-/
namespace Go.Proofs.YtmmkmkbpgcbehaaGreat
open Go.RowKit
set_option linter.unusedVariables false
set_option linter.unusedSimpArgs false

theorem emptySq1_c (W : World) (x y : Int) : Calls Tryz.prog 96 #[.int .i64 x, .int .i64 y] W (PostV W (.int .i64 0)) := by
  go_enter Tryz.func96, Tryz.ntmps96
  go_wp2
  go_ret
  exact ⟨rfl, Below.refl _ _⟩
theorem emptySquare_c (w : World) (m : Nat) (hm : m ≤ 1048576) : Calls Tryz.prog 83 #[.int .i64 (m : Int)] w (PostM w (sqTo (fun _ _ => 0) m m)) := by
  have HC := Lib.hid (filledSquare_c w (m : Int) m 96 #[] (fun _ _ => 0) (enters_of Tryz.func96 (by kernel_rfl) rfl) (by omega) hm (fun W x y _ _ _ => emptySq1_c W x y))
  go_enter Tryz.func83, Tryz.ntmps83
  go_wp2_with fail
  refine (HC.out).mono ?_
  rintro e w' ⟨⟨A, n, c, R, rfl, hn, ho⟩, hb⟩
  have HN := Lib.hid hn
  have HO := Lib.hid ho
  clear hn ho
  go_wp2
  go_ret
  exact ⟨⟨A, n, c, R, rfl, HN.out, HO.out⟩, hb⟩

/-- The rest of a slice that reads. -/
theorem RdI.drop {w : World} {b off c : Nat} {xs : List Int} (h : RdI w (some ⟨b, off, none⟩) c xs) (k : Nat) : RdI w (some ⟨b, off + k, none⟩) (c - k) (xs.drop k) :=
  ⟨by rw [List.length_drop]; have := h.le; omega, by have := h.cap; omega, fun j hj => by
    rw [List.length_drop] at hj
    obtain ⟨b', o', e, hb, hc⟩ := h.at_ (k + j) (by omega)
    injection e with e
    injection e with e1 e2
    subst e1 e2
    refine ⟨b, off + k, rfl, hb, ?_⟩
    rw [show off + k + j = off + (k + j) by omega, hc]
    simp [nth, List.getElem?_drop]⟩

set_option maxHeartbeats 4000000 in
theorem replicationsOf_c (w : World) (P : Nat) (A : Option Addr) (n c : Nat) (R : Spine) (xss : List (List Int)) (hr : RdM w A c R xss) (hn : xss.length = n) (hD : DsgOk (P : Int) xss) :
    Calls Tryz.prog 81 #[.agg #[.int .i64 (P : Int), .slice A n c]] w (PostS w (rpS P xss n)) := by
  have hP1 : 1 ≤ P := by have := hD.1.1; omega
  have hP2 : P ≤ 32 := by have := hD.1.2; omega
  have hn1 : n ≤ 128 := by have := hD.2.1; omega
  have hB0 := below_boxed w (.cells #[.int .i64 (P : Int), .slice A n c] 28)
  have hX := BoxD.made w (P : Int) A n c 28
  have hmk := fun W : World => run_make_row' (P := Tryz.prog) 35 2 (.int .i64 0) 8 Tryz.underlying35 infoI rfl .i64 .i64 P (by omega) (by omega) W
  have H0 := Lib.hid (OwnI.made (w.alloc (.cells #[.int .i64 (P : Int), .slice A n c] 28)) P (by unfold maxLen; omega) (lo := w.heap.size) (by simp))
  have HB1 := Lib.hid (hB0.alloc (by simp) (.cells (madeCells #[.int .i64 0] P) 2))
  have HR := Lib.hid hr
  have HN := Lib.hid hn
  have HD := Lib.hid hD
  have HL := Lib.hid (fun k hk => Nat.le_trans (setB_len (hD.rows k hk)) hP2)
  have HUp := Lib.hid (UpT.rpS (P := P) (xss := xss) HL.out)
  have hc0 := hX.c0
  have hc1 := hX.c1
  have HB1' := Lib.hid (show Below w.heap.size w ((w.alloc (.cells #[.int .i64 (P : Int), .slice A n c] 28)).alloc (.cells (madeCells #[.int .i64 0] P) 2)) from HB1.out)
  clear hB0 hX hr hn hD
  go_enter Tryz.func81, Tryz.ntmps81
  go_wp2
  clear hmk hc0 hc1
  have hG : (w.alloc (.cells #[.int .i64 (P : Int), .slice A n c] 28)).heap.size = w.heap.size + 1 := by simp
  have HO0 := Lib.hid (show OwnI ((w.alloc (.cells #[.int .i64 (P : Int), .slice A n c] 28)).alloc (.cells (madeCells #[.int .i64 0] P) 2)) w.heap.size (some ⟨w.heap.size + 1, 0, none⟩) P (rpS P xss 0) by rw [← hG]; exact H0.out)
  clear H0 hG HB1
  generalize ((w.alloc (.cells #[.int .i64 (P : Int), .slice A n c] 28)).alloc (.cells (madeCells #[.int .i64 0] P) 2)) = w0 at *
  go_loopw [14] (fun i wr => ∃ k : Nat, k ≤ n ∧ i = .int .i64 k ∧ Hid (OwnI wr w.heap.size (some ⟨w.heap.size + 1, 0, none⟩) P (rpS P xss k)) ∧ Hid (Below w.heap.size w wr)) (fun i _ => n - (intOf i).toNat)
  case atStart => exact ⟨0, Nat.zero_le _, rfl, HO0, HB1'⟩
  case round =>
    obtain ⟨k, hk, rfl, HO, HB⟩ := hrel
    by_cases hlt : k < n
    · have hkx : k < xss.length := by rw [HN.out]; exact hlt
      obtain ⟨b, off, e, hb, hc⟩ := HR.out.at_ k hkx
      subst e
      have hcc := (HB.out.cell (p := ⟨b, off + k, none⟩) hb).trans hc
      obtain ⟨s, hs⟩ : ∃ s, s = row xss k := ⟨_, rfl⟩
      have hrs := HR.out.rows k hkx
      rw [← hs] at hcc hrs
      have hlen := HL.out k hkx
      obtain ⟨q, hq⟩ : ∃ q, q = s.length := ⟨_, rfl⟩
      rw [← hs, ← hq] at hlen
      rw [← hq] at hcc
      have HQ := Lib.hid hq
      have HS := Lib.hid hs
      have HRs := Lib.hid hrs
      have hupk := HUp.out k (by omega)
      have HUk := Lib.hid hupk
      have HBd := Lib.hid (show ∀ j, j < q → 0 ≤ nth s j ∧ nth s j < (P : Int) from fun j hj => by rw [hs]; exact rowOk HD.out hkx (by rw [← hs, ← hq]; exact hj))
      clear hc hs hrs hq hupk
      go_wp2
      obtain ⟨wo, hwo⟩ : ∃ wo, wo = wr := ⟨_, rfl⟩
      rw [← hwo] at HB HO hcc ⊢
      clear hwo
      go_loopw [20] (fun i wr => ∃ j : Nat, j ≤ q ∧ i = .int .i64 j ∧ Hid (OwnI wr w.heap.size (some ⟨w.heap.size + 1, 0, none⟩) P (rpB s (rpS P xss k) j)) ∧ Hid (Below w.heap.size w wr)) (fun i _ => q - (intOf i).toNat)
      case atStart => exact ⟨0, Nat.zero_le _, rfl, HO, HB⟩
      case round =>
        obtain ⟨j, hj, rfl, HO2, HB2⟩ := hrel
        by_cases hlt2 : j < q
        · have hjx : j < s.length := by rw [← HQ.out]; exact hlt2
          obtain ⟨b2, o2, e2, hb2, hd2⟩ := HRs.out.at_ j hjx
          obtain ⟨hx0, hx1⟩ := HBd.out j hlt2
          have hd2' := (HB2.out.cell (p := ⟨b2, o2 + j, none⟩) hb2).trans hd2
          obtain ⟨xn, hxn⟩ : ∃ xn : Nat, nth s j = (xn : Int) := ⟨(nth s j).toNat, by omega⟩
          have HXn := Lib.hid (show sN s j = xn by unfold sN; rw [hxn]; rfl)
          rw [hxn] at hd2' hx1
          have hxP : xn < P := by omega
          have hx0' : (0 : Int) ≤ (xn : Int) := by omega
          obtain ⟨g, eg, _, _, hct, hft⟩ := HO2.out.at_ (k := xn) (by rw [rpB_len, rpS_len]; exact hxP)
          injection eg with eg
          injection eg with eg
          subst eg
          have hub := HUk.out.rpB (s := s) j xn
          obtain ⟨v, hv⟩ : ∃ v, v = nth (rpB s (rpS P xss k) j) xn := ⟨_, rfl⟩
          have hst := HO2.out.stored xn (v + 1)
          have HO3 := Lib.hid (show OwnI (wr.setCell ⟨w.heap.size + 1, xn, none⟩ (.int .i64 (v + 1))) w.heap.size (some ⟨w.heap.size + 1, 0, none⟩) P (rpB s (rpS P xss k) (j + 1)) by
            rw [rpB, bump, HXn.out, ← hv]; exact hst)
          have HB3 := Lib.hid (HB2.out.setCell (p := ⟨w.heap.size + 1, xn, none⟩) (by show w.heap.size ≤ w.heap.size + 1; omega) (.int .i64 (v + 1)))
          rw [← hv] at hct hub
          obtain ⟨hv0, hv1⟩ := hub
          have hv2 : v ≤ 100000 := by omega
          clear hst hv hd2 hx0 hxn hv1
          rw [e2]
          go_wp2
          go_roundw
          case rel => exact ⟨j + 1, by omega, by go_num, HO3, HB3⟩
          case measure => simp [intOf]; omega
        · obtain rfl : j = q := by omega
          have HO3 := Lib.hid (show OwnI wr w.heap.size (some ⟨w.heap.size + 1, 0, none⟩) P (rpS P xss (k + 1)) by rw [rpS, ← HS.out, ← HQ.out]; exact HO2.out)
          go_wp2
          go_roundw
          case rel => exact ⟨k + 1, by omega, by go_num, HO3, HB2⟩
          case measure => simp [intOf]; omega
    · obtain rfl : k = n := by omega
      have HLn := Lib.hid (rpS_len P xss k)
      go_wp2
      go_ret
      exact ⟨⟨_, _, _, rfl, HLn.out, HO.out⟩, HB.out⟩

set_option maxHeartbeats 4000000 in
theorem l10Replications_c (w : World) (Bx P : Nat) (A : Option Addr) (n c : Nat) (R : Spine) (xss : List (List Int)) (hx : BoxD w Bx (P : Int) A n c) (hr : RdM w A c R xss) (hn : xss.length = n) (hD : DsgOk (P : Int) xss) :
    Calls Tryz.prog 74 #[.pointer (some ⟨Bx, 0, none⟩)] w (PostS w (rpS P xss n)) := by
  have hP1 : 1 ≤ P := by have := hD.1.1; omega
  have hP2 : P ≤ 32 := by have := hD.1.2; omega
  have hn1 : n ≤ 128 := by have := hD.2.1; omega
  have hmk := fun W : World => run_make_row' (P := Tryz.prog) 35 2 (.int .i64 0) 8 Tryz.underlying35 infoI rfl .i64 .i64 P (by omega) (by omega) W
  have H0 := Lib.hid (OwnI.made w P (by unfold maxLen; omega) (Nat.le_refl w.heap.size))
  have HB1 := Lib.hid (below_boxed w (.cells (madeCells #[.int .i64 0] P) 2))
  have HR := Lib.hid hr
  have HN := Lib.hid hn
  have HD := Lib.hid hD
  have HX := Lib.hid hx
  have HL := Lib.hid (fun k hk => Nat.le_trans (setB_len (hD.rows k hk)) hP2)
  have HUp := Lib.hid (UpT.rpS (P := P) (xss := xss) HL.out)
  have hc0 := hx.c0
  have hBl := hx.lt
  clear hx hr hn hD
  go_enter Tryz.func74, Tryz.ntmps74
  go_wp2
  clear hmk hc0
  have HO0 := Lib.hid (show OwnI (w.alloc (.cells (madeCells #[.int .i64 0] P) 2)) w.heap.size (some ⟨w.heap.size, 0, none⟩) P (rpS P xss 0) from H0.out)
  clear H0
  generalize (w.alloc (.cells (madeCells #[.int .i64 0] P) 2)) = w0 at *
  go_loopw [4, 5] (fun i _ wr => ∃ k : Nat, k ≤ n ∧ i = .int .i64 k ∧ Hid (OwnI wr w.heap.size (some ⟨w.heap.size, 0, none⟩) P (rpS P xss k)) ∧ Hid (Below w.heap.size w wr)) (fun i _ _ => n - (intOf i).toNat)
  case atStart => exact ⟨0, Nat.zero_le _, rfl, HO0, HB1⟩
  case round =>
    obtain ⟨k, hk, rfl, HO, HB⟩ := hrel
    have hc1 := (HX.out.below HB.out).c1
    by_cases hlt : k < n
    · have hkx : k < xss.length := by rw [HN.out]; exact hlt
      obtain ⟨b, off, e, hb, hc⟩ := HR.out.at_ k hkx
      subst e
      obtain ⟨s, hs⟩ : ∃ s, s = row xss k := ⟨_, rfl⟩
      have hrs := HR.out.rows k hkx
      rw [← hs] at hc hrs
      have hlen := HL.out k hkx
      obtain ⟨q, hq⟩ : ∃ q, q = s.length := ⟨_, rfl⟩
      rw [← hs, ← hq] at hlen
      rw [← hq] at hc
      have HC := Lib.hid hc
      have HQ := Lib.hid hq
      have HS := Lib.hid hs
      have HRs := Lib.hid hrs
      have hupk := HUp.out k (by omega)
      have HUk := Lib.hid hupk
      have HBd := Lib.hid (show ∀ j, j < q → 0 ≤ nth s j ∧ nth s j < (P : Int) from fun j hj => by rw [hs]; exact rowOk HD.out hkx (by rw [← hs, ← hq]; exact hj))
      have hi0 : (0 : Int) ≤ (k : Int) := by omega
      have hi1 : (k : Int) < (n : Int) := by omega
      clear hc hs hrs hq hupk
      go_wp2
      obtain ⟨wo, hwo⟩ : ∃ wo, wo = wr := ⟨_, rfl⟩
      rw [← hwo] at HB HO hc1 ⊢
      clear hwo
      go_loopw [5] (fun i wr => ∃ j : Nat, j ≤ q ∧ i = .int .i64 j ∧ Hid (OwnI wr w.heap.size (some ⟨w.heap.size, 0, none⟩) P (rpB s (rpS P xss k) j)) ∧ Hid (Below w.heap.size w wr)) (fun i _ => q - (intOf i).toNat)
      case atStart => exact ⟨0, Nat.zero_le _, rfl, HO, HB⟩
      case round =>
        obtain ⟨j, hj, rfl, HO2, HB2⟩ := hrel
        clear hc1
        have hc1 := (HX.out.below HB2.out).c1
        have hcc := (HB2.out.cell (p := ⟨b, off + k, none⟩) hb).trans HC.out
        by_cases hlt2 : j < q
        · have hjx : j < s.length := by rw [← HQ.out]; exact hlt2
          obtain ⟨b2, o2, e2, hb2, hd2⟩ := HRs.out.at_ j hjx
          obtain ⟨hx0, hx1⟩ := HBd.out j hlt2
          have hd2' := (HB2.out.cell (p := ⟨b2, o2 + j, none⟩) hb2).trans hd2
          obtain ⟨xn, hxn⟩ : ∃ xn : Nat, nth s j = (xn : Int) := ⟨(nth s j).toNat, by omega⟩
          have HXn := Lib.hid (show sN s j = xn by unfold sN; rw [hxn]; rfl)
          rw [hxn] at hd2' hx1
          have hxP : xn < P := by omega
          have hx0' : (0 : Int) ≤ (xn : Int) := by omega
          have hj0 : (0 : Int) ≤ (j : Int) := by omega
          have hj1 : (j : Int) < (q : Int) := by omega
          obtain ⟨g, eg, _, _, hct, hft⟩ := HO2.out.at_ (k := xn) (by rw [rpB_len, rpS_len]; exact hxP)
          injection eg with eg
          injection eg with eg
          subst eg
          have hub := HUk.out.rpB (s := s) j xn
          obtain ⟨v, hv⟩ : ∃ v, v = nth (rpB s (rpS P xss k) j) xn := ⟨_, rfl⟩
          have hst := HO2.out.stored xn (v + 1)
          have HO3 := Lib.hid (show OwnI (wr.setCell ⟨w.heap.size, xn, none⟩ (.int .i64 (v + 1))) w.heap.size (some ⟨w.heap.size, 0, none⟩) P (rpB s (rpS P xss k) (j + 1)) by
            rw [rpB, bump, HXn.out, ← hv]; exact hst)
          have HB3 := Lib.hid (HB2.out.setCell (p := ⟨w.heap.size, xn, none⟩) (Nat.le_refl _) (.int .i64 (v + 1)))
          rw [← hv] at hct hub
          obtain ⟨hv0, hv1⟩ := hub
          have hv2 : v ≤ 100000 := by omega
          rw [e2] at hcc
          clear hst hv hd2 hx0 hxn hv1
          go_wp2
          go_roundw
          case rel => exact ⟨j + 1, by omega, by go_num, HO3, HB3⟩
          case measure => simp [intOf]; omega
        · obtain rfl : j = q := by omega
          have HO3 := Lib.hid (show OwnI wr w.heap.size (some ⟨w.heap.size, 0, none⟩) P (rpS P xss (k + 1)) by rw [rpS, ← HS.out, ← HQ.out]; exact HO2.out)
          go_wp2
          go_roundw
          case rel => exact ⟨k + 1, by omega, by go_num, HO3, HB2⟩
          case measure => simp [intOf]; omega
    · obtain rfl : k = n := by omega
      have HLn := Lib.hid (rpS_len P xss k)
      go_wp2
      go_ret
      exact ⟨⟨_, _, _, rfl, HLn.out, HO.out⟩, HB.out⟩

set_option maxHeartbeats 8000000 in
theorem pairCounts_c (w : World) (P : Nat) (A : Option Addr) (n c : Nat) (R : Spine) (xss : List (List Int)) (hr : RdM w A c R xss) (hn : xss.length = n) (hD : DsgOk (P : Int) xss) :
    Calls Tryz.prog 79 #[.agg #[.int .i64 (P : Int), .slice A n c]] w (PostS w (pairL P xss)) := by
  have hP1 : 1 ≤ P := by have := hD.1.1; omega
  have hP2 : P ≤ 32 := by have := hD.1.2; omega
  have hn1 : n ≤ 128 := by have := hD.2.1; omega
  have hB0 := below_boxed w (.cells #[.int .i64 (P : Int), .slice A n c] 28)
  have hX := BoxD.made w (P : Int) A n c 28
  have HR := Lib.hid hr
  have HN := Lib.hid hn
  have HD := Lib.hid hD
  have HL := Lib.hid (fun k hk => Nat.le_trans (setB_len (hD.rows k hk)) hP2)
  have HX := Lib.hid hX
  have HB0 := Lib.hid hB0
  have hc0 := hX.c0
  rw [← pairL_eq hD.rows, hn]
  clear hB0 hX hr hn hD
  go_enter Tryz.func79, Tryz.ntmps79
  go_wp2_with fail
  refine (emptySquare_c _ P (by omega)).mono ?_
  rintro e w1 ⟨⟨A3, n3, c3, R3, rfl, hn3, ho3⟩, hb3⟩
  obtain rfl : n3 = P := by rw [length_sqTo] at hn3; exact hn3.symm
  have HO0 := Lib.hid (show OwnM w1 w.heap.size A3 c3 R3 (sqTo (pS xss 0) n3 n3) from ho3.lower (by simp))
  have HB1 := Lib.hid (HB0.out.trans (hb3.mono (by simp)))
  have hc1 := (HX.out.below hb3).c1
  clear hc0 hn3 ho3 hb3
  go_wp2
  clear hc1
  go_loopw [19] (fun i wr => ∃ k : Nat, k ≤ n ∧ i = .int .i64 k ∧ Hid (OwnM wr w.heap.size A3 c3 R3 (sqTo (pS xss k) n3 n3)) ∧ Hid (Below w.heap.size w wr)) (fun i _ => n - (intOf i).toNat)
  case atStart => exact ⟨0, Nat.zero_le _, rfl, HO0, HB1⟩
  case round =>
    obtain ⟨k, hk, rfl, HO, HB⟩ := hrel
    by_cases hlt : k < n
    · have hkx : k < xss.length := by rw [HN.out]; exact hlt
      obtain ⟨b, off, e, hb, hc⟩ := HR.out.at_ k hkx
      subst e
      have hcc := (HB.out.cell (p := ⟨b, off + k, none⟩) hb).trans hc
      obtain ⟨s, hs⟩ : ∃ s, s = row xss k := ⟨_, rfl⟩
      have hrs := HR.out.rows k hkx
      rw [← hs] at hcc hrs
      have hlen := HL.out k hkx
      obtain ⟨q, hq⟩ : ∃ q, q = s.length := ⟨_, rfl⟩
      rw [← hs, ← hq] at hlen
      rw [← hq] at hcc
      have hC1 : q ≤ (R k).2 := by rw [hq]; exact hrs.le
      have hC2 : (R k).2 ≤ 9223372036854775807 := by have := hrs.cap; unfold maxLen at this; exact this
      obtain ⟨C, hC⟩ : ∃ C, C = (R k).2 := ⟨_, rfl⟩
      rw [← hC] at hcc hrs hC1 hC2
      have HQ := Lib.hid hq
      have HS := Lib.hid hs
      have HRs := Lib.hid hrs
      have HBd := Lib.hid (show ∀ j, j < q → 0 ≤ nth s j ∧ nth s j < (n3 : Int) from fun j hj => by rw [hs]; exact rowOk HD.out hkx (by rw [← hs, ← hq]; exact hj))
      have HVb := Lib.hid (show ∀ i j, i + 1 + j ≤ q → ∀ x y, 0 ≤ pJ s i (pI s (pS xss k) i) j x y ∧ pJ s i (pI s (pS xss k) i) j x y ≤ (k : Int) + 2 from fun i j h x y => by
        rw [hs]; exact pJ_bd HD.out.rows hkx (by rw [← hs, ← hq]; exact h) x y)
      clear hc hs hrs hq hC
      go_wp2
      obtain ⟨wo, hwo⟩ : ∃ wo, wo = wr := ⟨_, rfl⟩
      rw [← hwo] at HB HO hcc ⊢
      clear hwo
      go_loopw [25] (fun i wr => ∃ i0 : Nat, i0 ≤ q ∧ i = .int .i64 i0 ∧ Hid (OwnM wr w.heap.size A3 c3 R3 (sqTo (pI s (pS xss k) i0) n3 n3)) ∧ Hid (Below w.heap.size w wr)) (fun i _ => q - (intOf i).toNat)
      case atStart => exact ⟨0, Nat.zero_le _, rfl, HO, HB⟩
      case round =>
        obtain ⟨i, hi, rfl, HO2, HB2⟩ := hrel
        by_cases hlt2 : i < q
        · have hix : i < s.length := by rw [← HQ.out]; exact hlt2
          obtain ⟨b1, o1, e1, hb1, hd1⟩ := HRs.out.at_ i hix
          obtain ⟨hx0, hx1⟩ := HBd.out i hlt2
          have hd1' := (HB2.out.cell (p := ⟨b1, o1 + i, none⟩) hb1).trans hd1
          obtain ⟨xn, hxn⟩ : ∃ xn : Nat, nth s i = (xn : Int) := ⟨(nth s i).toNat, by omega⟩
          have HXn := Lib.hid (show sN s i = xn by unfold sN; rw [hxn]; rfl)
          rw [hxn] at hd1' hx1
          have hxP : xn < n3 := by omega
          have hx0' : (0 : Int) ≤ (xn : Int) := by omega
          clear hd1 hx0 hxn
          rw [e1]
          have HNx := Lib.hid (show pI s (pS xss k) (i + 1) = pJ s i (pI s (pS xss k) i) (q - (i + 1)) by rw [pI, ← HQ.out])
          by_cases hcap : C = i + 1
          · have hq0 : q = i + 1 := by omega
            have HO3 := Lib.hid (show OwnM wr w.heap.size A3 c3 R3 (sqTo (pI s (pS xss k) (i + 1)) n3 n3) by rw [HNx.out, hq0, Nat.sub_self]; exact HO2.out)
            subst hq0
            have hss : i + 1 - (i + 1) = 0 := by omega
            go_wp2
            go_loop [35] (fun j => j = .int .i64 0) (fun _ => 0)
            case atStart => rfl
            case round =>
              obtain rfl := hrel
              go_wp2
              go_roundw
              case rel => exact ⟨i + 1, by omega, by go_num, HO3, HB2⟩
              case measure => simp [intOf]
          · have hcap2 : i + 1 < C := by omega
            go_wp2
            obtain ⟨wo2, hwo2⟩ : ∃ wo2, wo2 = wr := ⟨_, rfl⟩
            rw [← hwo2] at HB2 HO2 hd1' ⊢
            clear hwo2
            obtain ⟨z, hz⟩ : ∃ z, z = q - (i + 1) := ⟨_, rfl⟩
            rw [← hz] at HNx ⊢
            go_loopw [35] (fun j wr => ∃ j0 : Nat, j0 ≤ z ∧ j = .int .i64 j0 ∧ Hid (OwnM wr w.heap.size A3 c3 R3 (sqTo (pJ s i (pI s (pS xss k) i) j0) n3 n3)) ∧ Hid (Below w.heap.size w wr)) (fun j _ => z - (intOf j).toNat)
            case atStart => exact ⟨0, Nat.zero_le _, rfl, HO2, HB2⟩
            case round =>
              obtain ⟨j, hj, rfl, HO3, HB3⟩ := hrel
              by_cases hlt3 : j < z
              · have hjx : i + 1 + j < s.length := by rw [← HQ.out]; omega
                obtain ⟨b2, o2, e2, hb2, hd2⟩ := HRs.out.at_ (i + 1 + j) hjx
                rw [e1] at e2
                injection e2 with e2
                injection e2 with e2 e3
                subst e2 e3
                have hd2' := (HB3.out.cell (p := ⟨b1, o1 + (i + 1 + j), none⟩) hb2).trans hd2
                rw [show o1 + (i + 1 + j) = o1 + (i + 1) + j by omega] at hd2'
                obtain ⟨hy0, hy1⟩ := HBd.out (i + 1 + j) (by omega)
                obtain ⟨yn, hyn⟩ : ∃ yn : Nat, nth s (i + 1 + j) = (yn : Int) := ⟨(nth s (i + 1 + j)).toNat, by omega⟩
                have HYn := Lib.hid (show sN s (i + 1 + j) = yn by unfold sN; rw [hyn]; rfl)
                rw [hyn] at hd2' hy1
                have hyP : yn < n3 := by omega
                have hy0' : (0 : Int) ≤ (yn : Int) := by omega
                have hvb := HVb.out i j (by omega) xn yn
                have hpj : pJ s i (pI s (pS xss k) i) (j + 1) = upd (pJ s i (pI s (pS xss k) i) j) xn yn (pJ s i (pI s (pS xss k) i) j xn yn + 1) := by rw [pJ, pstep, HXn.out, HYn.out]
                obtain ⟨v, hv⟩ : ∃ v, v = pJ s i (pI s (pS xss k) i) j xn yn := ⟨_, rfl⟩
                rw [← hv] at hvb hpj
                obtain ⟨g, g', C', eg, hg1, hg2, hfz, hlo, hgs, hset⟩ := HO3.out.sq_at (i := xn) (j := yn) hxP hyP
                rw [← hv] at hg2
                have hset' := hset (v + 1)
                rw [← hpj] at hset'
                have HO4 := Lib.hid hset'
                have HB4 := Lib.hid (HB3.out.setCell (p := ⟨g', yn, none⟩) hlo (.int .i64 (v + 1)))
                obtain ⟨hv0, hv1⟩ := hvb
                have hv2 : v ≤ 1000 := by omega
                have hz9 : z ≤ 32 := by omega
                clear hset hset' hv hpj hd2 hy0 hyn hv1 hz
                rw [eg]
                go_wp2
                go_roundw
                case rel => exact ⟨j + 1, by omega, by go_num, by rw [← eg]; exact HO4, HB4⟩
                case measure => simp [intOf]; omega
              · obtain rfl : j = z := by omega
                clear hz
                go_wp2
                go_roundw
                case rel => exact ⟨i + 1, by omega, by go_num, by rw [HNx.out]; exact HO3, HB3⟩
                case measure => simp [intOf]; omega
        · obtain rfl : i = q := by omega
          have HNx := Lib.hid (show pS xss (k + 1) = pI s (pS xss k) i by rw [pS, ← HS.out, ← HQ.out])
          go_wp2
          go_roundw
          case rel => exact ⟨k + 1, by omega, by go_num, by rw [HNx.out]; exact HO2, HB2⟩
          case measure => simp [intOf]; omega
    · obtain rfl : k = n := by omega
      obtain ⟨w2, hw2⟩ : ∃ w2, w2 = wr := ⟨_, rfl⟩
      rw [← hw2] at HB HO ⊢
      clear hw2
      have hsz := HB.out.size
      go_wp2
      go_loopw [10, 53] (fun o i wr => ∃ (x m : Nat) (A : Option Addr) (c : Nat), x ≤ n3 ∧ i = .int .i64 x ∧ o = .slice A m c ∧ Hid ((pairsTo n3 (pS xss k) x).length = m) ∧ Hid (OwnI wr w2.heap.size A c (pairsTo n3 (pS xss k) x)) ∧ Hid (Below w2.heap.size w2 wr)) (fun _ i _ => n3 - (intOf i).toNat)
      case atStart => exact ⟨0, 0, none, 0, Nat.zero_le _, rfl, rfl, rfl, OwnI.nil_ _ _, Below.refl _ _⟩
      case round =>
        obtain ⟨x, m, Ao, co, hx, rfl, rfl, hm, HI, HB2⟩ := hrel
        have HO2 := Lib.hid (HO.out.below HB2.out)
        have hsz2 := HB2.out.size
        by_cases hlt : x < n3
        · have hxl : x < (sqTo (pS xss k) n3 n3).length := by rw [length_sqTo]; exact hlt
          obtain ⟨g, eg, _, _, hg1, _⟩ := HO2.out.at_ hxl
          have hrow := HO2.out.rows x hxl
          rw [row_sqTo hlt] at hg1 hrow
          rw [length_rowTo] at hg1
          obtain ⟨g', eg', _, _, _, _⟩ := hrow.at_ (k := 0) (by rw [length_rowTo]; omega)
          have hrd := hrow.rd
          obtain ⟨C, hC⟩ : ∃ C, C = (R3 x).2 := ⟨_, rfl⟩
          rw [← hC] at hg1 hrd
          rw [eg'] at hg1 hrd
          have hC1 : n3 ≤ C := by have := hrd.le; rw [length_rowTo] at this; exact this
          have hC2 : C ≤ 9223372036854775807 := by have := hrd.cap; unfold maxLen at this; exact this
          have HRd := Lib.hid hrd
          have HSu := Lib.hid (pairsTo_succ n3 (pS xss k) x)
          have hml : m ≤ 1024 := by
            have h1 := pairsTo_len n3 (pS xss k) x
            have h2 : x * n3 ≤ 32 * 32 := Nat.mul_le_mul (by omega) hP2
            rw [hm.out] at h1; omega
          clear hrow hrd hC
          rw [eg]
          by_cases hcap : C = x + 1
          · have hx1 : n3 = x + 1 := by omega
            have hdrop : (rowTo (pS xss k) x n3).drop (x + 1) = [] := List.drop_eq_nil_of_le (by rw [length_rowTo]; omega)
            have HSu2 := Lib.hid (show pairsTo n3 (pS xss k) (x + 1) = pairsTo n3 (pS xss k) x by rw [HSu.out, hdrop, List.append_nil])
            have HNil := Lib.hid (show RdI wr (some ⟨g', 0, none⟩) 0 [] from ⟨Nat.le_refl _, by simp, fun _ h => absurd h (by simp)⟩)
            have hz0 : n3 - (x + 1) = 0 := by omega
            clear hdrop hx1
            subst hcap
            go_wp2_with (at_builtin; refine wpI_appendL rfl _ _ rfl w2.heap.size _ _ _ (pairsTo n3 (pS xss k) x) _ _ _ [] rfl rfl hm.out rfl HI.out HNil.out (fun h => by cases h) (by omega) (by omega) ?_; intro A4 c4 w4 ho4 hg4 ha4)
            have HB4 := Lib.hid (HB2.out.trans (below_blk HI.out hg4 (Nat.le_refl _) hsz2))
            have HI4 := Lib.hid (show OwnI w4 w2.heap.size A4 c4 (pairsTo n3 (pS xss k) (x + 1)) by rw [HSu2.out]; rw [List.append_nil] at ho4; exact ho4)
            have HM4 := Lib.hid (show (pairsTo n3 (pS xss k) (x + 1)).length = m by rw [HSu2.out]; exact hm.out)
            clear ho4 hg4 ha4
            go_wp2
            go_roundw
            case rel => first | exact ⟨x + 1, m, A4, c4, by omega, by go_num, rfl, HM4, HI4, HB4⟩ | ((repeat apply Exists.intro); exact ⟨⟨x + 1, m, A4, c4, by omega, by go_num, rfl, HM4, HI4, HB4⟩, rfl⟩)
            case measure => simp [intOf]; omega
          · have hcap2 : x + 1 < C := by omega
            have HRd2 := Lib.hid (show RdI wr (some ⟨g', x + 1, none⟩) (C - (x + 1)) ((rowTo (pS xss k) x n3).drop (x + 1)) by have := HRd.out.drop (x + 1); rwa [Nat.zero_add] at this)
            have HLd := Lib.hid (show ((rowTo (pS xss k) x n3).drop (x + 1)).length = n3 - (x + 1) by rw [List.length_drop, length_rowTo])
            go_wp2_with (at_builtin; refine wpI_appendL rfl _ _ rfl w2.heap.size _ _ _ (pairsTo n3 (pS xss k) x) _ _ _ ((rowTo (pS xss k) x n3).drop (x + 1)) rfl rfl hm.out HLd.out HI.out HRd2.out (fun h => by cases h) (by omega) (by omega) ?_; intro A4 c4 w4 ho4 hg4 ha4)
            have HB4 := Lib.hid (HB2.out.trans (below_blk HI.out hg4 (Nat.le_refl _) hsz2))
            have HI4 := Lib.hid (show OwnI w4 w2.heap.size A4 c4 (pairsTo n3 (pS xss k) (x + 1)) by rw [HSu.out]; exact ho4)
            have HM4 := Lib.hid (show (pairsTo n3 (pS xss k) (x + 1)).length = m + (n3 - (x + 1)) by rw [HSu.out, List.length_append, hm.out, HLd.out])
            clear ho4 hg4 ha4
            go_wp2
            go_roundw
            case rel => exact ⟨x + 1, m + (n3 - (x + 1)), A4, c4, by omega, by go_num, rfl, HM4, HI4, HB4⟩
            case measure => simp [intOf]; omega
        · obtain rfl : x = n3 := by omega
          have HI2 := Lib.hid (HI.out.lower hsz)
          have HBf := Lib.hid (HB.out.trans (HB2.out.mono hsz))
          go_wp2
          go_ret
          exact ⟨⟨Ao, m, co, rfl, hm.out, HI2.out⟩, HBf.out⟩

def outTo (P : Nat) (F : Nat → Nat → Int) (a b : Nat) : List Int := pairsTo P F a ++ ((rowTo F a P).drop (a + 1)).take (b - (a + 1))
theorem outTo_zero (P : Nat) (F : Nat → Nat → Int) (a : Nat) : outTo P F a (a + 1) = pairsTo P F a := by simp [outTo]
theorem outTo_succ {P : Nat} {F : Nat → Nat → Int} {a b : Nat} (h : a < b) (hb : b < P) : outTo P F a (b + 1) = outTo P F a b ++ [F a b] := by
  unfold outTo
  rw [show b + 1 - (a + 1) = (b - (a + 1)) + 1 by omega, List.take_add_one, ← List.append_assoc]
  congr 1
  rw [List.getElem?_drop, show a + 1 + (b - (a + 1)) = b by omega]
  simp [rowTo, hb]
theorem outTo_all {P : Nat} {F : Nat → Nat → Int} {a : Nat} : outTo P F a P = pairsTo P F (a + 1) := by
  rw [pairsTo_succ]
  unfold outTo
  congr 1
  exact List.take_of_length_le (by rw [List.length_drop, length_rowTo]; exact Nat.le_refl _)
theorem outTo_len (P : Nat) (F : Nat → Nat → Int) (a b : Nat) : (outTo P F a b).length ≤ a * P + P := by
  unfold outTo
  rw [List.length_append, List.length_take, List.length_drop, length_rowTo]
  have := pairsTo_len P F a
  omega

set_option maxHeartbeats 8000000 in
theorem l10Pairs_c (w : World) (Bx P : Nat) (A : Option Addr) (n c : Nat) (R : Spine) (xss : List (List Int)) (hx : BoxD w Bx (P : Int) A n c) (hr : RdM w A c R xss) (hn : xss.length = n) (hD : DsgOk (P : Int) xss) :
    Calls Tryz.prog 73 #[.pointer (some ⟨Bx, 0, none⟩)] w (PostS w (pairL P xss)) := by
  have hP1 : 1 ≤ P := by have := hD.1.1; omega
  have hP2 : P ≤ 32 := by have := hD.1.2; omega
  have hn1 : n ≤ 128 := by have := hD.2.1; omega
  have HR := Lib.hid hr
  have HN := Lib.hid hn
  have HX := Lib.hid hx
  have H0 := Lib.hid (OwnI.lit0 w (Nat.le_refl w.heap.size))
  have HB0 := Lib.hid (below_boxed w (.cells #[] 2))
  obtain ⟨F, hF⟩ : ∃ F, F = cntF xss := ⟨_, rfl⟩
  have HF := Lib.hid hF
  rw [show pairL P xss = pairsTo P F P by rw [hF]; rfl]
  clear hr hn hx hF hD
  go_enter Tryz.func73, Tryz.ntmps73
  go_wp2
  generalize (w.alloc (.cells #[] 2)) = w0 at *
  go_loopw [3, 4, 5, 6, 7] (fun o i _ _ _ wr => ∃ (a m : Nat) (A' : Option Addr) (c' : Nat), a ≤ P ∧ i = .int .i64 a ∧ o = .slice A' m c' ∧ Hid ((pairsTo P F a).length = m) ∧ Hid (OwnI wr w.heap.size A' c' (pairsTo P F a)) ∧ Hid (Below w.heap.size w wr)) (fun _ i _ _ _ _ => P - (intOf i).toNat)
  case atStart => exact ⟨0, 0, _, _, Nat.zero_le _, rfl, rfl, rfl, H0.out, HB0⟩
  case round =>
    obtain ⟨a, m, A2, c2, ha, rfl, rfl, hm, HI, HB⟩ := hrel
    have hc0 := (HX.out.below HB.out).c0
    by_cases hlt : a < P
    · obtain ⟨wo, hwo⟩ : ∃ wo, wo = wr := ⟨_, rfl⟩
      rw [← hwo] at HB HI hc0 ⊢
      clear hwo
      go_wp2
      clear hc0
      go_loopw [3, 5, 6, 7] (fun o i _ _ wr => ∃ (b m : Nat) (A' : Option Addr) (c' : Nat), a < b ∧ b ≤ P ∧ i = .int .i64 b ∧ o = .slice A' m c' ∧ Hid ((outTo P F a b).length = m) ∧ Hid (OwnI wr w.heap.size A' c' (outTo P F a b)) ∧ Hid (Below w.heap.size w wr)) (fun _ i _ _ _ => P - (intOf i).toNat)
      case atStart => exact ⟨a + 1, m, A2, c2, by omega, by omega, by go_num, rfl, by rw [outTo_zero]; exact hm, by rw [outTo_zero]; exact HI, HB⟩
      case round =>
        obtain ⟨b, m3, A3, c3, hab, hb, rfl, rfl, hm3, HI3, HB3⟩ := hrel
        have hc0 := (HX.out.below HB3.out).c0
        have hsz := HB3.out.size
        by_cases hlt2 : b < P
        · obtain ⟨wi, hwi⟩ : ∃ wi, wi = wr := ⟨_, rfl⟩
          rw [← hwi] at HB3 HI3 hc0 hsz ⊢
          clear hwi
          go_wp2
          clear hc0
          have hc1 := (HX.out.below HB3.out).c1
          go_loop [6, 7] (fun s i => ∃ k : Nat, k ≤ n ∧ i = .int .i64 k ∧ s = .int .i64 ((cntP xss (a : Int) (b : Int) k : Nat) : Int)) (fun _ i => n - (intOf i).toNat)
          case atStart => exact ⟨0, Nat.zero_le _, rfl, rfl⟩
          case round =>
            obtain ⟨k, hk, rfl, rfl⟩ := hrel
            have hle := cntP_le xss (a : Int) (b : Int) k
            by_cases hlt3 : k < n
            · have hkx : k < xss.length := by rw [HN.out]; exact hlt3
              obtain ⟨b1, off, e, hb1, hc⟩ := HR.out.at_ k hkx
              rw [e] at hc1
              have hcc := (HB3.out.cell (p := ⟨b1, off + k, none⟩) hb1).trans hc
              have hrk := (HR.out.rows k hkx).below HB3.out
              have HH := Lib.hid (has_c wi (R k).1 (row xss k).length (R k).2 (row xss k) (a : Int) hrk rfl)
              have HH2 := Lib.hid (has_c wi (R k).1 (row xss k).length (R k).2 (row xss k) (b : Int) hrk rfl)
              have HS := Lib.hid (cntP_succ xss (a : Int) (b : Int) k)
              have HLP := Lib.hid (show lineP xss (a : Int) (b : Int) k = (hasB (row xss k) (a : Int) && hasB (row xss k) (b : Int)) from rfl)
              have hi0 : (0 : Int) ≤ (k : Int) := by omega
              have hi1 : (k : Int) < (n : Int) := by omega
              clear hrk hc
              generalize hasB (row xss k) (a : Int) = q1 at *
              generalize hasB (row xss k) (b : Int) = q2 at *
              cases q1
              · have HS2 := Lib.hid (show cntP xss (a : Int) (b : Int) (k + 1) = cntP xss (a : Int) (b : Int) k by rw [HS.out, HLP.out]; rfl)
                go_wp2_with fail
                refine (HH.out).mono ?_
                rintro e w' ⟨rfl, rfl⟩
                go_wp2
                go_round
                case rel => exact ⟨k + 1, by omega, by go_num, by rw [HS2.out]⟩
                case measure => simp [intOf]; omega
              · cases q2
                · have HS2 := Lib.hid (show cntP xss (a : Int) (b : Int) (k + 1) = cntP xss (a : Int) (b : Int) k by rw [HS.out, HLP.out]; rfl)
                  go_wp2_with fail
                  refine (HH.out).mono ?_
                  rintro e w' ⟨rfl, rfl⟩
                  go_wp2_with fail
                  refine (HH2.out).mono ?_
                  rintro e w' ⟨rfl, rfl⟩
                  go_wp2
                  go_round
                  case rel => exact ⟨k + 1, by omega, by go_num, by rw [HS2.out]⟩
                  case measure => simp [intOf]; omega
                · have HS2 := Lib.hid (show cntP xss (a : Int) (b : Int) (k + 1) = cntP xss (a : Int) (b : Int) k + 1 by rw [HS.out, HLP.out]; rfl)
                  go_wp2_with fail
                  refine (HH.out).mono ?_
                  rintro e w' ⟨rfl, rfl⟩
                  go_wp2_with fail
                  refine (HH2.out).mono ?_
                  rintro e w' ⟨rfl, rfl⟩
                  go_wp2
                  go_round
                  case rel => exact ⟨k + 1, by omega, by go_num, by rw [HS2.out]; go_num⟩
                  case measure => simp [intOf]; omega
            · obtain rfl : k = n := by omega
              have HV := Lib.hid (show F a b = ((cntP xss (a : Int) (b : Int) k : Nat) : Int) by rw [HF.out, cntF, HN.out])
              obtain ⟨v, hv⟩ : ∃ v : Int, v = ((cntP xss (a : Int) (b : Int) k : Nat) : Int) := ⟨_, rfl⟩
              rw [← hv] at HV ⊢
              have HI4 := Lib.hid (HI3.out.alloc (.cells #[.int .i64 v] 2))
              have HSu := Lib.hid (outTo_succ (F := F) hab hlt2)
              have hml : m3 ≤ 1056 := by
                have h1 := outTo_len P F a b
                have h2 : a * P ≤ 32 * 32 := Nat.mul_le_mul (by omega) hP2
                rw [hm3.out] at h1; omega
              clear hv
              go_wp2_with (at_builtin; refine wpI_append rfl _ _ rfl w.heap.size _ _ _ (outTo P F a b) v wi.heap.size rfl rfl hm3.out HI4.out (World.cell?_alloc_at _ _ _ _ rfl) (by omega) (by simp; omega) ?_; intro A5 c5 w5 ho5 hg5 ha5)
              have HB5 := Lib.hid ((HB3.out.alloc hsz _).trans (below_blk HI4.out hg5 (Nat.le_refl _) (by simp; omega)))
              have HO5 := Lib.hid (show OwnI w5 w.heap.size A5 c5 (outTo P F a (b + 1)) by rw [HSu.out, HV.out]; exact ho5)
              have HM5 := Lib.hid (show (outTo P F a (b + 1)).length = m3 + 1 by rw [HSu.out, List.length_append, hm3.out]; rfl)
              clear ho5 hg5 ha5
              go_wp2
              go_roundw
              case rel => exact ⟨b + 1, m3 + 1, A5, c5, by omega, by omega, by go_num, rfl, HM5, HO5, HB5⟩
              case measure => simp [intOf]; omega
        · obtain rfl : b = P := by omega
          have HO5 := Lib.hid (show OwnI wr w.heap.size A3 c3 (pairsTo b F (a + 1)) by rw [← outTo_all]; exact HI3.out)
          have HM5 := Lib.hid (show (pairsTo b F (a + 1)).length = m3 by rw [← outTo_all]; exact hm3.out)
          go_wp2
          go_roundw
          case rel => exact ⟨a + 1, m3, A3, c3, by omega, by go_num, rfl, HM5, HO5, HB3⟩
          case measure => simp [intOf]; omega
    · obtain rfl : a = P := by omega
      go_wp2
      go_ret
      exact ⟨⟨A2, m, c2, rfl, hm.out, HI.out⟩, HB.out⟩
end Go.Proofs.YtmmkmkbpgcbehaaGreat
