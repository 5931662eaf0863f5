/-
  What the laws' own walks need: endings of contracts, objects in an interval of blocks, the helpers' contracts in one shape. Conditions: those of each theorem.
-/
import Derived.Test.YthgbfgdnljgicabBasic
namespace Go.Proofs.Ythgbfgdnljgicab
open Go.RowKit
set_option linter.unusedVariables false
set_option linter.unusedSimpArgs false

/-- The call returned v; what lay in memory lies as it did. -/
def PostV (w : World) (v : Value) (e : Ending) (w' : World) : Prop := e = .returned v ∧ Below w.heap.size w w'
/-- It returned a slice of its own that reads as xs, and a code. -/
def PostSC (w : World) (xs : List Int) (k : Int) (e : Ending) (w' : World) : Prop :=
  (∃ A n c, e = .returned (.tuple #[.slice A n c, .int .i64 k]) ∧ xs.length = n ∧ OwnI w' w.heap.size A c xs) ∧ Below w.heap.size w w'
def PostS (w : World) (xs : List Int) (e : Ending) (w' : World) : Prop :=
  (∃ A n c, e = .returned (.slice A n c) ∧ xs.length = n ∧ OwnI w' w.heap.size A c xs) ∧ Below w.heap.size w w'
def PostMC (w : World) (xss : List (List Int)) (k : Int) (e : Ending) (w' : World) : Prop :=
  (∃ A n c R, e = .returned (.tuple #[.slice A n c, .int .i64 k]) ∧ xss.length = n ∧ OwnM w' w.heap.size A c R xss) ∧ Below w.heap.size w w'
def PostM (w : World) (xss : List (List Int)) (e : Ending) (w' : World) : Prop :=
  (∃ A n c R, e = .returned (.slice A n c) ∧ xss.length = n ∧ OwnM w' w.heap.size A c R xss) ∧ Below w.heap.size w w'

/-- Numbers that fit int64. -/
def WfL (xs : List Int) : Prop := ∀ x ∈ xs, -9223372036854775808 ≤ x ∧ x ≤ 9223372036854775807
def WfM (xss : List (List Int)) : Prop := ∀ xs ∈ xss, WfL xs

/-- Blocks from lo up to hi are as they were where they lie outside of the interval; none has gone. -/
structure Mid (lo hi : Nat) (w w' : World) : Prop where
  os : w'.os = w.os
  tape : w'.tape = w.tape
  output : w'.output = w.output
  size : w.heap.size ≤ w'.heap.size
  block : ∀ k, k < w.heap.size → k < lo ∨ hi ≤ k → w'.heap[k]? = w.heap[k]?

theorem Mid.below {lo hi B : Nat} {w w' : World} (h : Mid lo hi w w') (hB : B ≤ lo) (hs : B ≤ w.heap.size) : Below B w w' :=
  ⟨h.os, h.tape, h.output, h.size, fun k hk => h.block k (by omega) (.inl (by omega))⟩

/-- An owned slice whose block lies below hi. -/
structure InI (w : World) (lo hi : Nat) (A : Option Addr) (c : Nat) (xs : List Int) : Prop where
  own : OwnI w lo A c xs
  top : ∀ g, A = some ⟨g, 0, none⟩ → g < hi
structure InM (w : World) (lo hi : Nat) (A : Option Addr) (c : Nat) (R : Spine) (xss : List (List Int)) : Prop where
  own : OwnM w lo A c R xss
  top : ∀ g, A = some ⟨g, 0, none⟩ → g < hi
  tops : ∀ k, k < xss.length → ∀ g, (R k).1 = some ⟨g, 0, none⟩ → g < hi

section
variable {w w' : World} {lo hi : Nat} {A : Option Addr} {c : Nat} {xs : List Int} {R : Spine} {xss : List (List Int)}
theorem OwnI.in_ (h : OwnI w lo A c xs) : InI w lo w.heap.size A c xs := ⟨h, fun _ e => (h.lt e).2⟩
theorem OwnM.in_ (h : OwnM w lo A c R xss) : InM w lo w.heap.size A c R xss := ⟨h, fun _ e => (h.lt e).2, fun k hk _ e => ((h.rows k hk).lt e).2⟩
theorem InI.step (h : InI w lo hi A c xs) (hk : ∀ k, lo ≤ k → k < hi → w'.heap[k]? = w.heap[k]?) : InI w' lo hi A c xs :=
  ⟨h.own.of_block fun g e => hk g (h.own.lt e).1 (h.top g e), h.top⟩
theorem InM.step (h : InM w lo hi A c R xss) (hk : ∀ k, lo ≤ k → k < hi → w'.heap[k]? = w.heap[k]?) : InM w' lo hi A c R xss := by
  refine ⟨⟨⟨h.own.own.1, ?_⟩, fun k hk' => (h.own.rows k hk').of_block fun g e => hk g ((h.own.rows k hk').lt e).1 (h.tops k hk' g e), h.own.apart⟩, h.top, h.tops⟩
  rcases h.own.own.2 with hn | ⟨g, cap, cur, e, hg, hh, r⟩
  · exact .inl hn
  · refine .inr ⟨g, cap, cur, e, hg, ?_, r⟩
    injection e with e1
    rw [hk g hg (h.top g e1)]
    exact hh
/-- A thing that only reads: below what was there. -/
theorem RdI.step (h : RdI w A c xs) {B : Nat} (hB : ∀ b off, A = some ⟨b, off, none⟩ → b < B) (hb : Below B w w') : RdI w' A c xs :=
  ⟨h.le, h.cap, fun k hk => by
    obtain ⟨b, off, e, hl, hc⟩ := h.at_ k hk
    have := hB b off e
    exact ⟨b, off, e, by have := hb.size; omega, (hb.cell (p := ⟨b, off + k, none⟩) this).trans hc⟩⟩
end

/-! ### The helpers in one shape -/

theorem eqS_v (w : World) {A A' : Option Addr} {n c c' : Nat} {xs : List Int} (hx : RdI w A c xs) (hy : RdI w A' c' xs) (hn : xs.length = n) (hb : xs.length ≤ 140737488355328) :
    Calls Try.prog 22 #[.slice A n c, .slice A' n c'] w (PostV w (.bool true)) := by
  have h := eqS w hx hy hn hn hb
  rw [decide_eq_true rfl] at h
  exact h.mono fun _ _ ⟨he, m, hm⟩ => ⟨he, hm ▸ below_drewN (Below.refl _ _) m⟩
theorem eqSS_v (w : World) {A A' : Option Addr} {n c c' : Nat} {R R' : Spine} {xss : List (List Int)} (hx : RdM w A c R xss) (hy : RdM w A' c' R' xss) (hn : xss.length = n) (hb : xss.length ≤ 140737488355328)
    (hb' : ∀ k, k < xss.length → (row xss k).length ≤ 140737488355328) :
    Calls Try.prog 8 #[.slice A n c, .slice A' n c'] w (PostV w (.bool true)) := by
  have h := eqSS w hx hy hn hn hb hb'
  rw [decide_eq_true rfl] at h
  exact h.mono fun _ _ ⟨he, m, hm⟩ => ⟨he, hm ▸ below_drewN (Below.refl _ _) m⟩

/-- What mark leaves: numbers k0, k0 + 1, .. -/
theorem markS_v (w : World) {lo hi : Nat} {A : Option Addr} {c n : Nat} {xs : List Int} (k0 : Int) (h : InI w lo hi A c xs) (hn : xs.length = n) (h0 : 0 ≤ k0) (hb : k0 + (n : Int) ≤ 4611686018427387904) :
    Calls Try.prog 23 #[.slice A n c, .int .i64 k0] w fun e w' => e = .returned (.int .i64 (k0 + n)) ∧ InI w' lo hi A c (upFrom k0 n) ∧ Mid lo hi w w' :=
  (markS w lo A c xs n k0 h.own hn h0 hb).mono fun _ _ ⟨he, ho, hg⟩ => ⟨he, ⟨ho, h.top⟩, ⟨hg.os, hg.tape, hg.output, hg.size, fun k hk hout => hg.block k hk fun e => by
    rcases h.own.form with ⟨e1, _⟩ | ⟨g, e1, hl, _⟩
    · rw [e1] at e; simp [blk] at e
    · rw [e1, blk_some] at e
      injection e with e
      have := h.top g e1
      omega⟩⟩
theorem heldS_v (w : World) {A : Option Addr} {c n : Nat} (k0 : Int) (h : RdI w A c (upFrom k0 n)) (h0 : 0 ≤ k0) (hb : k0 + (n : Int) ≤ 4611686018427387904) :
    Calls Try.prog 24 #[.slice A n c, .int .i64 k0] w fun e w' => e = .returned (.int .i64 (k0 + n)) ∧ Below w.heap.size w w' :=
  (heldS w A n c k0 (fun k hk => by
    obtain ⟨b, off, e1, e2, e3⟩ := h.at_ k (by rw [length_upFrom]; exact hk)
    rw [nth_upFrom hk] at e3
    exact ⟨b, off, e1, e2, e3⟩) h0 hb).mono fun _ _ ⟨he, hw⟩ => ⟨he, hw ▸ Below.refl _ _⟩
theorem markSS_v (w : World) {lo hi : Nat} {A : Option Addr} {c n : Nat} {R : Spine} {xss : List (List Int)} (k0 : Int) (h : InM w lo hi A c R xss) (hn : xss.length = n) (h0 : 0 ≤ k0) (hb : k0 + (tot xss : Nat) ≤ 4611686018427387904) :
    Calls Try.prog 11 #[.slice A n c, .int .i64 k0] w fun e w' => e = .returned (.int .i64 (k0 + (tot xss : Nat))) ∧ (∃ yss, InM w' lo hi A c R yss ∧ Marked k0 n xss yss) ∧ Mid lo hi w w' :=
  (markSS w lo A c R xss n k0 h.own hn h0 hb).mono fun _ _ ⟨he, ⟨yss, ho, hM⟩, hg⟩ => ⟨he, ⟨yss, ⟨ho, h.top, fun k hk => h.tops k (by rw [hM.1] at hk; exact hk)⟩, hM⟩, ⟨hg.os, hg.tape, hg.output, hg.size, fun k hk hout => hg.block k hk fun j hj e => by
    have hj' : j < xss.length := by omega
    rcases (h.own.rows j hj').form with ⟨e1, _⟩ | ⟨g, e1, hl, _⟩
    · rw [e1] at e; simp [blk] at e
    · rw [e1, blk_some] at e
      injection e with e
      have := h.tops j hj' g e1
      omega⟩⟩
theorem heldSS_v (w : World) {A : Option Addr} {c n : Nat} {R : Spine} {xss yss : List (List Int)} (k0 : Int) (h : RdM w A c R yss) (hM : Marked k0 n xss yss) (hn : xss.length = n) (h0 : 0 ≤ k0) (hb : k0 + (tot xss : Nat) ≤ 4611686018427387904) :
    Calls Try.prog 12 #[.slice A n c, .int .i64 k0] w fun e w' => e = .returned (.int .i64 (k0 + (tot xss : Nat))) ∧ Below w.heap.size w w' :=
  (heldSS w A c R xss yss n k0 h hM hn h0 hb).mono fun _ _ ⟨he, hw⟩ => ⟨he, hw ▸ Below.refl _ _⟩
theorem row_small {xss : List (List Int)} (h : tot xss ≤ 1048576) : ∀ k, k < xss.length → (row xss k).length ≤ 1048576 := fun k hk => by
  have := row_le_tot hk
  omega
end Go.Proofs.Ythgbfgdnljgicab
