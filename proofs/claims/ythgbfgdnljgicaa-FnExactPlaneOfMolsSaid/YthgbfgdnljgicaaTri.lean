/-
  Slices of slices of slices of int64: what they read as, and the laws' helpers over them (szInt64SSS, eqInt64SSS, markInt64SSS, heldInt64SSS, toInt64SSS). Conditions: those of each theorem.
-/
import Derived.Test.YthgbfgdnljgicaaLawKit
namespace Go.Proofs.Ythgbfgdnljgicaa
open Go.RowKit
set_option linter.unusedVariables false
set_option linter.unusedSimpArgs false

/-- The k-th plane of a list of planes, empty behind its end. -/
def pln (x : List (List (List Int))) (k : Nat) : List (List Int) := (x[k]?).getD []
theorem pln_some {x : List (List (List Int))} {k : Nat} (h : k < x.length) : x[k]? = some (pln x k) := by simp [pln, h]
theorem pln_eq {x : List (List (List Int))} {k : Nat} (h : k < x.length) : pln x k = x[k] := by simp [pln, h]
theorem take_pln {x : List (List (List Int))} {k : Nat} (h : k < x.length) : x.take (k + 1) = x.take k ++ [pln x k] := by
  rw [List.take_add_one, pln_some h]; rfl
theorem pln_set {x : List (List (List Int))} {i k : Nat} (hk : k < x.length) (ys : List (List Int)) : pln (x.set i ys) k = if k = i then ys else pln x k := by
  by_cases e : k = i
  · subst e; simp [pln, hk]
  · rw [if_neg e]; simp [pln, List.getElem?_set_ne (fun e' => e e'.symm)]
/-- Lengths of planes and of their rows, added. -/
def wgt (x : List (List (List Int))) : Nat := (x.map fun p => p.length + tot p).sum
def cnt3 (x : List (List (List Int))) : Nat := (x.map tot).sum
theorem wgt_append (a b : List (List (List Int))) : wgt (a ++ b) = wgt a + wgt b := by simp [wgt]
theorem wgt_one (p : List (List Int)) : wgt [p] = p.length + tot p := by simp [wgt]
theorem wgt_take_succ {x : List (List (List Int))} {k : Nat} (h : k < x.length) : wgt (x.take (k + 1)) = wgt (x.take k) + ((pln x k).length + tot (pln x k)) := by
  rw [take_pln h, wgt_append, wgt_one]
theorem wgt_take_le (x : List (List (List Int))) (k : Nat) : wgt (x.take k) ≤ wgt x := by
  have := wgt_append (x.take k) (x.drop k)
  rw [List.take_append_drop] at this
  omega
theorem pln_le_wgt {x : List (List (List Int))} {k : Nat} (h : k < x.length) : wgt (x.take k) + ((pln x k).length + tot (pln x k)) ≤ wgt x := by
  rw [← wgt_take_succ h]; exact wgt_take_le x _
theorem cnt3_append (a b : List (List (List Int))) : cnt3 (a ++ b) = cnt3 a + cnt3 b := by simp [cnt3]
theorem cnt3_one (p : List (List Int)) : cnt3 [p] = tot p := by simp [cnt3]
theorem cnt3_take_succ {x : List (List (List Int))} {k : Nat} (h : k < x.length) : cnt3 (x.take (k + 1)) = cnt3 (x.take k) + tot (pln x k) := by
  rw [take_pln h, cnt3_append, cnt3_one]
theorem cnt3_take_le (x : List (List (List Int))) (k : Nat) : cnt3 (x.take k) ≤ cnt3 x := by
  have := cnt3_append (x.take k) (x.drop k)
  rw [List.take_append_drop] at this
  omega
theorem pln_le_cnt3 {x : List (List (List Int))} {k : Nat} (h : k < x.length) : cnt3 (x.take k) + tot (pln x k) ≤ cnt3 x := by
  rw [← cnt3_take_succ h]; exact cnt3_take_le x _
theorem cnt3_le_wgt (x : List (List (List Int))) : cnt3 x ≤ wgt x := by
  induction x with
  | nil => simp [cnt3, wgt]
  | cons a x ih => simp [cnt3, wgt] at *; omega

/-- Plane k: its address, its capacity, its rows. -/
abbrev Spine3 := Nat → Option Addr × Nat × Spine
structure RdL (w : World) (A : Option Addr) (c : Nat) (S : Spine3) (x : List (List (List Int))) : Prop where
  le : x.length ≤ c
  cap : c ≤ maxLen
  at_ : ∀ k, k < x.length → ∃ b off, A = some ⟨b, off, none⟩ ∧ b < w.heap.size ∧ w.cell? ⟨b, off + k, none⟩ = some (.slice (S k).1 (pln x k).length (S k).2.1)
  rows : ∀ k, k < x.length → RdM w (S k).1 (S k).2.1 (S k).2.2 (pln x k)
def WfT (x : List (List (List Int))) : Prop := ∀ p ∈ x, WfM p

/-- A slice of slices of slices that is the call's own; its planes lie in intervals of blocks that part from each other and from the outer block. -/
structure OwnL (w : World) (lo hi : Nat) (A : Option Addr) (c : Nat) (S : Spine3) (I : Nat → Nat × Nat) (x : List (List (List Int))) : Prop where
  own : w.ownsRow lo 24 1 (.slice A x.length c) x.length ((List.range x.length).map fun k => .slice (S k).1 (pln x k).length (S k).2.1)
  top : ∀ g, A = some ⟨g, 0, none⟩ → g < hi
  rows : ∀ k, k < x.length → InM w (I k).1 (I k).2 (S k).1 (S k).2.1 (S k).2.2 (pln x k)
  inn : ∀ k, k < x.length → lo ≤ (I k).1 ∧ (I k).2 ≤ hi
  out : ∀ k, k < x.length → ∀ g, A = some ⟨g, 0, none⟩ → g < (I k).1 ∨ (I k).2 ≤ g
  apart : ∀ i j, i ≠ j → i < x.length → j < x.length → (I i).2 ≤ (I j).1 ∨ (I j).2 ≤ (I i).1

section
variable {w w' : World} {lo hi : Nat} {A : Option Addr} {c : Nat} {S : Spine3} {I : Nat → Nat × Nat} {x : List (List (List Int))}
theorem RdL.keep (h : RdL w A c S x) (hs : w.heap.size ≤ w'.heap.size) (hk : ∀ p : Addr, p.block < w.heap.size → w'.cell? p = w.cell? p) : RdL w' A c S x :=
  ⟨h.le, h.cap, fun k hk' => by
    obtain ⟨b, off, e, hb, hc⟩ := h.at_ k hk'
    exact ⟨b, off, e, by omega, (hk ⟨b, off + k, none⟩ hb).trans hc⟩, fun k hk' => (h.rows k hk').keep hs hk⟩
theorem RdL.below (h : RdL w A c S x) (hb : Below w.heap.size w w') : RdL w' A c S x := h.keep hb.size fun _ hp => hb.cell hp
theorem RdL.drewN (h : RdL w A c S x) (n : Nat) : RdL (w.drewN n) A c S x := ⟨h.le, h.cap, h.at_, fun k hk => (h.rows k hk).drewN n⟩
theorem RdL.nil_ (w : World) (S : Spine3) : RdL w none 0 S [] := ⟨Nat.le_refl _, by simp, fun _ h => absurd h (by simp), fun _ h => absurd h (by simp)⟩

theorem OwnL.form (h : OwnL w lo hi A c S I x) : (A = none ∧ c = 0 ∧ x = []) ∨ ∃ g, A = some ⟨g, 0, none⟩ ∧ lo ≤ g ∧ g < w.heap.size ∧ x.length ≤ c ∧ c ≤ maxLen := by
  rcases h.own.2 with ⟨e, hn⟩ | ⟨g, cap, cur, e, hg, hh, hc, hm, _, _⟩
  · injection e with e1 e2 e3
    exact .inl ⟨e1, e3, List.eq_nil_of_length_eq_zero hn⟩
  · injection e with e1 e2 e3
    subst e3
    exact .inr ⟨g, e1, hg, (Array.getElem?_eq_some_iff.1 hh).1, hc, hm⟩
theorem OwnL.rd (h : OwnL w lo hi A c S I x) : RdL w A c S x := by
  have hr : ∀ k, k < x.length → RdM w (S k).1 (S k).2.1 (S k).2.2 (pln x k) := fun k hk => (h.rows k hk).own.rd
  rcases h.form with ⟨rfl, rfl, rfl⟩ | ⟨g, rfl, hg, hlt, hc, hm⟩
  · exact RdL.nil_ _ _
  · refine ⟨hc, hm, fun k hk => ⟨g, 0, rfl, hlt, ?_⟩, hr⟩
    have := World.ownsRow.cellAt h.own k (by omega)
    rw [Nat.zero_add, this]
    simp [hk]
theorem OwnL.at_ (h : OwnL w lo hi A c S I x) {k : Nat} (hk : k < x.length) : ∃ g, A = some ⟨g, 0, none⟩ ∧ lo ≤ g ∧ g < w.heap.size ∧ w.cell? ⟨g, k, none⟩ = some (.slice (S k).1 (pln x k).length (S k).2.1) ∧ w.frozen? ⟨g, k, none⟩ = false := by
  rcases h.form with ⟨rfl, rfl, rfl⟩ | ⟨g, rfl, hg, hlt, hc, hm⟩
  · simp at hk
  · refine ⟨g, rfl, hg, hlt, ?_, World.ownsRow.frozenAt h.own k⟩
    rw [World.ownsRow.cellAt h.own k (by omega)]
    simp [hk]
theorem OwnL.step (h : OwnL w lo hi A c S I x) (hk : ∀ k, lo ≤ k → k < hi → w'.heap[k]? = w.heap[k]?) : OwnL w' lo hi A c S I x := by
  refine ⟨⟨h.own.1, ?_⟩, h.top, fun k hk' => (h.rows k hk').step fun i h1 h2 => hk i (by have := (h.inn k hk').1; omega) (by have := (h.inn k hk').2; omega), h.inn, h.out, h.apart⟩
  rcases h.own.2 with hn | ⟨g, cap, cur, e, hg, hh, r⟩
  · exact .inl hn
  · refine .inr ⟨g, cap, cur, e, hg, ?_, r⟩
    injection e with e1
    rw [hk g hg (h.top g e1)]
    exact hh
theorem OwnL.higher (h : OwnL w lo hi A c S I x) {hi' : Nat} (hh : hi ≤ hi') : OwnL w lo hi' A c S I x :=
  ⟨h.own, fun g e => Nat.lt_of_lt_of_le (h.top g e) hh, h.rows, fun k hk => ⟨(h.inn k hk).1, Nat.le_trans (h.inn k hk).2 hh⟩, h.out, h.apart⟩
end

theorem InM.nil_ (w : World) (lo hi : Nat) (R : Spine) : InM w lo hi none 0 R [] := ⟨OwnM.nil_ _ _ _, (fun _ e => nomatch e), fun _ h => absurd h (by simp)⟩
/-- One more place, one more interval. -/
def putP (S : Spine3) (k : Nat) (A : Option Addr) (c : Nat) (R : Spine) : Spine3 := fun j => if j = k then (A, c, R) else S j
def putI (I : Nat → Nat × Nat) (k : Nat) (a b : Nat) : Nat → Nat × Nat := fun j => if j = k then (a, b) else I j

/-- A store of a new plane at place i. -/
theorem OwnL.set_pln {w : World} {lo hi g c : Nat} {S : Spine3} {I : Nat → Nat × Nat} {x : List (List (List Int))} (h : OwnL w lo hi (some ⟨g, 0, none⟩) c S I x) {i : Nat} (hi' : i < x.length) {a b : Nat} {Ay : Option Addr} {cy : Nat} {Ry : Spine} {ys : List (List Int)}
    (hr : InM w a b Ay cy Ry ys) (ha : hi ≤ a) (hab : a ≤ b) : OwnL (w.setCell ⟨g, i, none⟩ (.slice Ay ys.length cy)) lo b (some ⟨g, 0, none⟩) c (putP S i Ay cy Ry) (putI I i a b) (x.set i ys) := by
  obtain ⟨hs1, hs2⟩ := World.ownsRow.stored h.own i (.slice Ay ys.length cy)
  have hg := h.top g rfl
  have hlg : lo ≤ g := by
    rcases h.form with ⟨e, _⟩ | ⟨g', e, hl, _⟩
    · cases e
    · injection e with e; injection e with e; subst e; exact hl
  have hsame : ∀ k, k ≠ g → (w.setCell ⟨g, i, none⟩ (.slice Ay ys.length cy)).heap[k]? = w.heap[k]? := fun k hk => Below.heap_setCell w _ _ k hk
  refine ⟨?_, fun g' e => by injection e with e; injection e with e; subst e; omega, fun k hk => ?_, fun k hk => ?_, fun k hk g' e => ?_, fun p q hpq hp hq => ?_⟩
  · rw [List.length_set]
    have e : ((List.range x.length).map fun k => Value.slice (putP S i Ay cy Ry k).1 (pln (x.set i ys) k).length (putP S i Ay cy Ry k).2.1) =
        ((List.range x.length).map fun k => Value.slice (S k).1 (pln x k).length (S k).2.1).set i (.slice Ay ys.length cy) := by
      apply List.ext_getElem
      · simp
      · intro k h1 h2
        simp only [List.length_map, List.length_range] at h1
        rw [List.getElem_set]
        simp only [List.getElem_map, List.getElem_range, putP]
        rw [pln_set h1]
        by_cases e : k = i
        · subst e; simp
        · rw [if_neg e, if_neg e, if_neg (fun e' => e e'.symm)]
    rw [e]
    exact hs1
  · rw [List.length_set] at hk
    rw [pln_set hk]
    simp only [putP, putI]
    by_cases e : k = i
    · rw [if_pos e, if_pos e, if_pos e]
      exact hr.step fun j h1 h2 => hsame j (by show j ≠ g; omega)
    · rw [if_neg e, if_neg e, if_neg e]
      refine (h.rows k hk).step fun j h1 h2 => hsame j ?_
      rcases h.out k hk g rfl with h3 | h3 <;> omega
  · rw [List.length_set] at hk
    simp only [putI]
    by_cases e : k = i
    · rw [if_pos e]; exact ⟨by show lo ≤ a; omega, Nat.le_refl _⟩
    · rw [if_neg e]; have := h.inn k hk; omega
  · rw [List.length_set] at hk
    injection e with e
    injection e with e
    subst e
    simp only [putI]
    by_cases e : k = i
    · rw [if_pos e]; left; show g < a; omega
    · rw [if_neg e]; exact h.out k hk g rfl
  · rw [List.length_set] at hp hq
    simp only [putI]
    by_cases e : p = i
    · rw [if_pos e, if_neg (by omega)]
      have := h.inn q hq
      right; show (I q).2 ≤ a; omega
    · rw [if_neg e]
      by_cases e2 : q = i
      · rw [if_pos e2]
        have := h.inn p hp
        left; show (I p).2 ≤ a; omega
      · rw [if_neg e2]; exact h.apart p q hpq hp hq

/-- A step that turns one plane's interval alone, and leaves it a plane of the same length. -/
theorem OwnL.turned {w w' : World} {lo hi : Nat} {A : Option Addr} {c : Nat} {S : Spine3} {I : Nat → Nat × Nat} {x : List (List (List Int))} (h : OwnL w lo hi A c S I x) {i : Nat} (hi' : i < x.length) {ys : List (List Int)} (hl : ys.length = (pln x i).length)
    (hr : InM w' (I i).1 (I i).2 (S i).1 (S i).2.1 (S i).2.2 ys) (hm : Mid (I i).1 (I i).2 w w') : OwnL w' lo hi A c S I (x.set i ys) := by
  refine ⟨?_, h.top, fun k hk => ?_, fun k hk => h.inn k (by rwa [List.length_set] at hk), fun k hk => h.out k (by rwa [List.length_set] at hk), fun p q hpq hp hq => h.apart p q hpq (by rwa [List.length_set] at hp) (by rwa [List.length_set] at hq)⟩
  · rw [List.length_set]
    rw [show ((List.range x.length).map fun k => Value.slice (S k).1 (pln (x.set i ys) k).length (S k).2.1) = (List.range x.length).map fun k => Value.slice (S k).1 (pln x k).length (S k).2.1 from
      List.map_congr_left fun k hk => by
        rw [pln_set (List.mem_range.1 hk)]
        by_cases e : k = i
        · subst e; rw [if_pos rfl, hl]
        · rw [if_neg e]]
    refine ⟨h.own.1, ?_⟩
    rcases h.own.2 with hn | ⟨g, cap, cur, e, hlo, hh, r⟩
    · exact .inl hn
    · refine .inr ⟨g, cap, cur, e, hlo, ?_, r⟩
      injection e with e1
      rw [hm.block g (Array.getElem?_eq_some_iff.1 hh).1 (h.out i hi' g e1)]
      exact hh
  · rw [List.length_set] at hk
    rw [pln_set hk]
    by_cases e : k = i
    · subst e; rw [if_pos rfl]; exact hr
    · rw [if_neg e]
      have h1 := h.rows k hk
      have h2 := h.apart k i e hk hi'
      refine ⟨⟨⟨h1.own.own.1, ?_⟩, fun j hj => ?_, h1.own.apart⟩, h1.top, h1.tops⟩
      · rcases h1.own.own.2 with hn | ⟨g, cap, cur, e, hg, hh, r⟩
        · exact .inl hn
        · refine .inr ⟨g, cap, cur, e, hg, ?_, r⟩
          injection e with e1
          have h3 := h1.top g e1
          rw [hm.block g (Array.getElem?_eq_some_iff.1 hh).1 (by omega)]
          exact hh
      · refine (h1.own.rows j hj).of_block fun g e => ?_
        have h3 := (h1.own.rows j hj).lt e
        have h4 := h1.tops j hj g e
        exact hm.block g h3.2 (by omega)

set_option maxHeartbeats 400000 in
theorem szL_in (w : World) (A : Option Addr) (n c : Nat) (S : Spine3) (x : List (List (List Int))) (left : Int) (hr : RdL w A c S x) (hn : x.length = n) (h0 : (n : Int) + (wgt x : Nat) ≤ left) (h1 : left ≤ 1048576) :
    Calls Try.prog 4 #[.slice A n c, .int .i64 left] w fun e w' => e = .returned (.int .i64 (left - n - (wgt x : Nat))) ∧ w = w' := by
  have HA := Lib.hid hr
  have HN := Lib.hid hn
  clear hr hn
  go_enter Try.func4, Try.ntmps4
  go_wp2
  go_loop [1, 5] (fun q i => ∃ (k : Nat) (t : Int), k ≤ n ∧ i = .int .i64 k ∧ q = .int .i64 t ∧ Hid (t = left - n - (wgt (x.take k) : Nat))) (fun _ i => n - (intOf i).toNat)
  case atStart => exact ⟨0, left - n, Nat.zero_le _, rfl, rfl, by simp [Hid, wgt]⟩
  case round =>
    obtain ⟨k, t, hk, rfl, rfl, ht⟩ := hrel
    by_cases hlt : k < n
    · have hkx : k < x.length := by rw [HN.out]; exact hlt
      have hrt := pln_le_wgt hkx
      obtain ⟨b, off, rfl, hb, hc⟩ := HA.out.at_ k hkx
      have ht0 : ((pln x k).length : Int) + (tot (pln x k) : Nat) ≤ t := by rw [ht.out]; omega
      have ht1 : t ≤ 1048576 := by rw [ht.out]; omega
      have ht2 : 0 ≤ t - ((pln x k).length : Int) - (tot (pln x k) : Nat) := by omega
      have HC := Lib.hid (szSS_in w (S k).1 (pln x k).length (S k).2.1 (pln x k) t (HA.out.rows k hkx).atL rfl ht0 ht1)
      go_wp2_with (go_at_call 13; refine (HC.out).mono ?_; rintro e w1 ⟨rfl, rfl⟩)
      go_round
      case rel =>
        refine ⟨k + 1, t - ((pln x k).length : Int) - (tot (pln x k) : Nat), by omega, by go_num, rfl, ?_⟩
        show _ = _
        rw [ht.out, wgt_take_succ hkx]; omega
      case measure => simp [intOf]; omega
    · obtain rfl : k = n := by omega
      have e : t = left - k - (wgt x : Nat) := by rw [ht.out, List.take_of_length_le (by rw [HN.out]; exact Nat.le_refl _)]
      have HE := Lib.hid e
      clear e
      go_wp2
      go_ret
      exact ⟨ret_i HE.out, rfl⟩

set_option maxHeartbeats 400000 in
theorem szL_out (w : World) (A : Option Addr) (n c : Nat) (S : Spine3) (x : List (List (List Int))) (left : Int) (hr : RdL w A c S x) (hn : x.length = n) (h0 : left < (n : Int) + (wgt x : Nat)) (h1 : 0 ≤ left) (h2 : left ≤ 1048576) :
    Calls Try.prog 4 #[.slice A n c, .int .i64 left] w fun e w' => e = .returned (.int .i64 (-1)) ∧ w = w' := by
  have hm : n ≤ 9223372036854775807 := by have h1 := hr.le; have h2 := hr.cap; unfold maxLen at h2; omega
  have HA := Lib.hid hr
  have HN := Lib.hid hn
  clear hr hn
  by_cases hl0 : left < n
  · go_enter Try.func4, Try.ntmps4
    go_wp2
    go_ret
    exact ⟨rfl, rfl⟩
  have hl1 : (n : Int) ≤ left := by omega
  clear hl0
  go_enter Try.func4, Try.ntmps4
  go_wp2
  go_loop [1, 5] (fun q i => ∃ (k : Nat) (t : Int), k ≤ n ∧ i = .int .i64 k ∧ q = .int .i64 t ∧ Hid (t = left - n - (wgt (x.take k) : Nat)) ∧ 0 ≤ t ∧ t ≤ 1048576) (fun _ i => n - (intOf i).toNat)
  case atStart => exact ⟨0, left - n, Nat.zero_le _, rfl, rfl, by simp [Hid, wgt], by omega, by omega⟩
  case round =>
    obtain ⟨k, t, hk, rfl, rfl, ht, ht0, ht1⟩ := hrel
    by_cases hlt : k < n
    · have hkx : k < x.length := by rw [HN.out]; exact hlt
      obtain ⟨b, off, rfl, hb, hc⟩ := HA.out.at_ k hkx
      by_cases hfit : ((pln x k).length : Int) + (tot (pln x k) : Nat) ≤ t
      · have ht2 : 0 ≤ t - ((pln x k).length : Int) - (tot (pln x k) : Nat) := by omega
        have HC := Lib.hid (szSS_in w (S k).1 (pln x k).length (S k).2.1 (pln x k) t (HA.out.rows k hkx).atL rfl hfit ht1)
        go_wp2_with (go_at_call 13; refine (HC.out).mono ?_; rintro e w1 ⟨rfl, rfl⟩)
        go_round
        case rel =>
          refine ⟨k + 1, t - ((pln x k).length : Int) - (tot (pln x k) : Nat), by omega, by go_num, rfl, ?_, by omega, by omega⟩
          show _ = _
          rw [ht.out, wgt_take_succ hkx]; omega
        case measure => simp [intOf]; omega
      · have hf' : t < ((pln x k).length : Int) + (tot (pln x k) : Nat) := by omega
        have HC := Lib.hid (szSS_out w (S k).1 (pln x k).length (S k).2.1 (pln x k) t (HA.out.rows k hkx).atL rfl hf' ht0 ht1 (by have h1 := (HA.out.rows k hkx).le; have h2 := (HA.out.rows k hkx).cap; unfold maxLen at h2; omega))
        clear hfit
        go_wp2_with (go_at_call 13; refine (HC.out).mono ?_; rintro e w1 ⟨rfl, rfl⟩)
        go_ret
        exact ⟨rfl, rfl⟩
    · exfalso
      obtain rfl : k = n := by omega
      have e : t = left - k - (wgt x : Nat) := by rw [ht.out, List.take_of_length_le (by rw [HN.out]; exact Nat.le_refl _)]
      omega

theorem pln_small {x : List (List (List Int))} (h : wgt x ≤ 1048576) : ∀ k, k < x.length → (pln x k).length ≤ 1048576 ∧ tot (pln x k) ≤ 1048576 := fun k hk => by
  have := pln_le_wgt hk
  omega

set_option maxHeartbeats 400000 in
theorem eqL_v (w : World) {A A' : Option Addr} {n c c' : Nat} {S S' : Spine3} {x : List (List (List Int))} (hx : RdL w A c S x) (hy : RdL w A' c' S' x) (hn : x.length = n) (hb : x.length ≤ 140737488355328) (hb' : wgt x ≤ 1048576) :
    Calls Try.prog 9 #[.slice A n c, .slice A' n c'] w (PostV w (.bool true)) := by
  have HX := Lib.hid hx
  have HY := Lib.hid hy
  have HB := Lib.hid (pln_small hb')
  have HN := Lib.hid hn
  rw [hn] at hb
  clear hx hy hb' hn
  go_enter Try.func9, Try.ntmps9
  go_wp2
  go_loopw [5] (fun i wr => ∃ k : Nat, k ≤ n ∧ i = .int .i64 k ∧ Qt w wr) (fun i _ => n - (intOf i).toNat)
  case atStart => exact ⟨0, Nat.zero_le _, rfl, Qt.refl w⟩
  case round =>
    obtain ⟨k, hk, rfl, ⟨m, rfl⟩⟩ := hrel
    by_cases hlt : k < n
    · have hkx : k < x.length := by rw [HN.out]; exact hlt
      obtain ⟨b, off, rfl, hb1, hc⟩ := HX.out.at_ k hkx
      obtain ⟨b', off', rfl, hb2, hc'⟩ := HY.out.at_ k hkx
      have HC := Lib.hid (fun q => show Calls Try.prog 25 #[.slice (S k).1 (pln x k).length (S k).2.1, .slice (S' k).1 (pln x k).length (S' k).2.1] (w.drewN q) (EndQ (.bool true) (w.drewN q)) from by
        have h := eqSS (w.drewN q) ((HX.out.rows k hkx).drewN q) ((HY.out.rows k hkx).drewN q) rfl rfl (by have := (HB.out k hkx).1; omega) (fun j hj => by have := row_small (HB.out k hkx).2 j hj; omega)
        rw [decide_eq_true rfl] at h
        exact h)
      go_wp2
      go_quiet ((go_at_call 25; exact quiet_endN (HC.out _)))
      go_wp2
      go_roundw
      case rel => exact ⟨k + 1, by omega, by go_num, ⟨_, rfl⟩⟩
      case measure => simp [intOf]; omega
    · obtain rfl : k = n := by omega
      go_wp2
      go_ret
      exact ⟨rfl, below_drewN (Below.refl _ _) _⟩

/-- The planes hold k0, k0 + 1, .. through all of their rows. -/
def Marked3 (k0 : Int) (i : Nat) (x y : List (List (List Int))) : Prop :=
  y.length = x.length ∧ (∀ j, j < x.length → (pln y j).length = (pln x j).length) ∧ (∀ j, i ≤ j → j < x.length → pln y j = pln x j) ∧ ∀ j, j < i → j < x.length → Marked (k0 + (cnt3 (x.take j) : Nat)) (pln x j).length (pln x j) (pln y j)

set_option maxHeartbeats 800000 in
theorem markL_v (w : World) {lo hi : Nat} {A : Option Addr} {c n : Nat} {S : Spine3} {I : Nat → Nat × Nat} {x : List (List (List Int))} (k0 : Int) (h : OwnL w lo hi A c S I x) (hn : x.length = n) (h0 : 0 ≤ k0) (hb : k0 + (cnt3 x : Nat) ≤ 4611686018427387904) :
    Calls Try.prog 10 #[.slice A n c, .int .i64 k0] w fun e w' => e = .returned (.int .i64 (k0 + (cnt3 x : Nat))) ∧ (∃ y, OwnL w' lo hi A c S I y ∧ Marked3 k0 n x y) ∧ Mid lo hi w w' := by
  have HN := Lib.hid hn
  have hc0 : c ≤ maxLen := h.rd.cap
  have hnc : n ≤ c := by have := h.rd.le; rw [hn] at this; exact this
  unfold maxLen at hc0
  clear hn
  go_enter Try.func10, Try.ntmps10
  go_wp2
  go_loopw [1, 5] (fun q i wr => ∃ (k : Nat) (t : Int), k ≤ n ∧ i = .int .i64 k ∧ q = .int .i64 t ∧ Hid (t = k0 + (cnt3 (x.take k) : Nat)) ∧ (∃ y, OwnL wr lo hi A c S I y ∧ Marked3 k0 k x y) ∧ Mid lo hi w wr) (fun _ i _ => n - (intOf i).toNat)
  case atStart => exact ⟨0, k0, Nat.zero_le _, rfl, rfl, by simp [Hid, cnt3], ⟨x, h, rfl, fun _ _ => rfl, fun _ _ _ => rfl, fun j hj => absurd hj (by omega)⟩, ⟨rfl, rfl, rfl, Nat.le_refl _, fun _ _ _ => rfl⟩⟩
  case round =>
    obtain ⟨k, t, hk, rfl, rfl, ht, ⟨y, ho, hM⟩, hB⟩ := hrel
    by_cases hlt : k < n
    · have hkx : k < x.length := by rw [HN.out]; exact hlt
      have hky : k < y.length := by rw [hM.1]; exact hkx
      obtain ⟨g, rfl, hlg, hgs, hc, hf⟩ := ho.at_ hky
      have hrl := hM.2.1 k hkx
      have hyk := hM.2.2.1 k (Nat.le_refl _) hkx
      have hrt := pln_le_cnt3 hkx
      have ht0 : 0 ≤ t := by rw [ht.out]; omega
      have ht1 : t + (tot (pln x k) : Nat) ≤ 4611686018427387904 := by rw [ht.out]; omega
      have hrow := ho.rows k hky
      rw [hyk] at hrow hc
      have HC := Lib.hid (markSS_v wr t hrow rfl ht0 ht1)
      have HO := Lib.hid ho
      have HM := Lib.hid hM
      have HHB := Lib.hid hB
      clear hrl ho hM hrow hyk hB
      go_wp2_with (go_at_call 26; refine (HC.out).mono ?_; rintro e w1 ⟨rfl, ⟨ys, ho1, hm1⟩, hg1⟩)
      have hyx := HM.out.2.2.1 k (Nat.le_refl _) hkx
      have ho2 := HO.out.turned hky (ys := ys) (by rw [hm1.1, hyx]) ho1 hg1
      have hB1 : Mid lo hi w w1 := ⟨hg1.os.trans HHB.out.os, hg1.tape.trans HHB.out.tape, hg1.output.trans HHB.out.output, Nat.le_trans HHB.out.size hg1.size, fun j hj hout => (hg1.block j (Nat.lt_of_lt_of_le hj HHB.out.size) (by have := HO.out.inn k hky; omega)).trans (HHB.out.block j hj hout)⟩
      go_roundw
      case rel =>
        refine ⟨k + 1, t + (tot (pln x k) : Nat), by omega, by go_num, rfl, ?_, ⟨_, ho2, ?_⟩, hB1⟩
        · show _ = _
          rw [ht.out, cnt3_take_succ hkx]; omega
        · refine ⟨by rw [List.length_set]; exact HM.out.1, fun j hj => ?_, fun j hj1 hj => ?_, fun j hj1 hj => ?_⟩
          · have hjy : j < y.length := by rw [HM.out.1]; exact hj
            rw [pln_set hjy]
            by_cases e : j = k
            · subst e; rw [if_pos rfl, hm1.1]
            · rw [if_neg e]; exact HM.out.2.1 j hj
          · have hjy : j < y.length := by rw [HM.out.1]; exact hj
            rw [pln_set hjy, if_neg (by omega)]
            exact HM.out.2.2.1 j (by omega) hj
          · have hjy : j < y.length := by rw [HM.out.1]; exact hj
            rw [pln_set hjy]
            by_cases e : j = k
            · subst e; rw [if_pos rfl, ← ht.out]; exact hm1
            · rw [if_neg e]; exact HM.out.2.2.2 j (by omega) hj
      case measure => simp [intOf]; omega
    · obtain rfl : k = n := by omega
      have e : t = k0 + (cnt3 x : Nat) := by rw [ht.out, List.take_of_length_le (by rw [HN.out]; exact Nat.le_refl _)]
      have HE := Lib.hid e
      have HO := Lib.hid ho
      have HM := Lib.hid hM
      clear e ho hM h
      go_wp2
      go_ret
      exact ⟨ret_i HE.out, ⟨y, HO.out, HM.out⟩, hB⟩

theorem infoM : (Try.prog.info? 24).map (fun i => (i.zero, i.size, i.bytes)) = some (some (.slice none 0 0), 1, 24) := by kernel_rfl
theorem OwnL.made (w : World) (n : Nat) (hn : n ≤ maxLen) :
    OwnL (w.alloc (.cells (madeCells #[.slice none 0 0] n) 24)) w.heap.size (w.heap.size + 1) (some ⟨w.heap.size, 0, none⟩) n (fun _ => (none, 0, fun _ => (none, 0))) (fun _ => (w.heap.size, w.heap.size)) (List.replicate n []) := by
  have hr : ∀ k, pln (List.replicate n ([] : List (List Int))) k = [] := by
    intro k; simp only [pln, List.getElem?_replicate]; split <;> rfl
  have := World.ownsRow_lit (e := 24) (size := 1) w (madeCells #[.slice none 0 0] n) n (Nat.le_refl w.heap.size) hn (by rw [size_madeCells]; omega)
  rw [toList_madeCells_one] at this
  refine ⟨?_, fun g e => by injection e with e; injection e with e; omega, fun k _ => by rw [hr]; exact InM.nil_ _ _ _ _, fun k _ => ⟨Nat.le_refl _, Nat.le_succ _⟩, fun k _ g _ => by omega, fun _ _ _ _ _ => .inl (Nat.le_refl _)⟩
  have e : ((List.range (List.replicate n ([] : List (List Int))).length).map fun k => Value.slice none (pln (List.replicate n ([] : List (List Int))) k).length 0) = List.replicate n (.slice none 0 0) := by
    rw [List.length_replicate]
    apply List.ext_getElem
    · simp
    · intro k h1 h2; simp [hr]
  show World.ownsRow _ _ _ _ _ _ (List.map (fun k => Value.slice none (pln (List.replicate n ([] : List (List Int))) k).length 0) _)
  rw [e, List.length_replicate]
  exact this
theorem take_set_pln {x : List (List (List Int))} {k n : Nat} (h : k < x.length) (hn : x.length = n) :
    (x.take k ++ List.replicate (n - k) []).set k (pln x k) = x.take (k + 1) ++ List.replicate (n - (k + 1)) [] := by
  have hk : (x.take k).length = k := by simp; omega
  rw [List.set_append_right _ _ (by omega), hk, Nat.sub_self, show n - k = (n - (k + 1)) + 1 from by omega, List.replicate_succ, List.set_cons_zero, take_pln h, List.append_assoc]
  rfl

set_option maxHeartbeats 800000 in
/-- toInt64SSS copies the slice, its planes and their rows into new memory. -/
theorem toL (w : World) (A : Option Addr) (n c : Nat) (S : Spine3) (x : List (List (List Int))) (hx : RdL w A c S x) (hn : x.length = n) (hb : n ≤ 1048576) (hb2 : wgt x ≤ 1048576) :
    Calls Try.prog 6 #[.slice A n c] w fun e w' => (∃ A' S' I', e = .returned (.slice A' n n) ∧ OwnL w' w.heap.size w'.heap.size A' n S' I' x) ∧ Below w.heap.size w w' := by
  have HX := Lib.hid hx
  have HN := Lib.hid hn
  have HB2 := Lib.hid (pln_small hb2)
  clear hx hn hb2
  have hmk := fun W : World => run_make_row' (P := Try.prog) 22 24 (.slice none 0 0) 24 Try.underlying22 infoM rfl .i64 .i64 n (by omega) (by omega) W
  have H0 := Lib.hid (OwnL.made w n (by unfold maxLen; omega))
  go_enter Try.func6, Try.ntmps6
  go_wp2
  go_loopw [4] (fun i wr => ∃ k : Nat, k ≤ n ∧ i = .int .i64 k ∧ (∃ S' I', OwnL wr w.heap.size wr.heap.size (some ⟨w.heap.size, 0, none⟩) n S' I' (x.take k ++ List.replicate (n - k) [])) ∧ Below w.heap.size w wr) (fun i _ => n - (intOf i).toNat)
  case atStart => exact ⟨0, Nat.zero_le _, rfl, ⟨_, _, by simpa using H0.out⟩, (Below.refl _ _).alloc (Nat.le_refl _) _⟩
  case round =>
    obtain ⟨k, hk, rfl, ⟨S', I', ho⟩, hB⟩ := hrel
    by_cases hlt : k < n
    · have hkx : k < x.length := by rw [HN.out]; exact hlt
      obtain ⟨b, off, rfl, hbs, hc⟩ := (HX.out).at_ k hkx
      have hcr : wr.cell? ⟨b, off + k, none⟩ = some (.slice (S k).1 (pln x k).length (S k).2.1) := (hB.cell (p := ⟨b, off + k, none⟩) hbs).trans hc
      have hlen : (x.take k ++ List.replicate (n - k) []).length = n := nth_rep (by omega) HN.out
      have HC := Lib.hid (toSS wr (S k).1 (pln x k).length (S k).2.1 (S k).2.2 (pln x k) ((HX.out.rows k hkx).keep hB.size fun _ hp => hB.cell hp) rfl (by have := (HB2.out k hkx).1; omega) (fun j hj => by have := row_small (HB2.out k hkx).2 j hj; omega))
      have HO := Lib.hid ho
      have HL := Lib.hid hlen
      clear ho hlen hc hmk
      go_wp2_with fail
      refine (HC.out).mono ?_
      rintro e w1 ⟨⟨A1, R1, rfl, ho1⟩, hb1⟩
      have hz : w.heap.size ≤ wr.heap.size := hB.size
      have ho2 := HO.out.step (w' := w1) (fun j _ h2 => hb1.block j h2)
      obtain ⟨g, e, hlg, hgs, hc1, hf1⟩ := ho2.at_ (k := k) (by rw [HL.out]; exact hlt)
      injection e with e
      injection e with e
      subst e
      have hs := ho2.set_pln (i := k) (by rw [HL.out]; exact hlt) ho1.in_ (Nat.le_refl _) hb1.size
      rw [take_set_pln hkx HN.out] at hs
      have HS := Lib.hid hs
      have HB := Lib.hid ((hB.trans (hb1.mono hz)).setCell (p := ⟨w.heap.size, k, none⟩) (Nat.le_refl _) (.slice A1 (pln x k).length (pln x k).length))
      have hsz : (w1.setCell ⟨w.heap.size, k, none⟩ (.slice A1 (pln x k).length (pln x k).length)).heap.size = w1.heap.size := by simp [World.setCell]
      have HSz := Lib.hid hsz
      clear hs ho2 ho1 hcr hsz
      go_wp2
      go_roundw
      case rel => exact ⟨k + 1, by omega, by go_num, ⟨_, _, by rw [HSz.out]; exact HS.out⟩, HB.out⟩
      case measure => simp [intOf]; omega
    · obtain rfl : k = n := by omega
      have ho' : OwnL wr w.heap.size wr.heap.size (some ⟨w.heap.size, 0, none⟩) k S' I' x := by
        have e : x.take k ++ List.replicate (k - k) [] = x := by rw [List.take_of_length_le (by rw [HN.out]; exact Nat.le_refl _)]; simp
        rwa [e] at ho
      have HO := Lib.hid ho'
      clear ho ho' hmk
      go_wp2
      go_ret
      exact ⟨⟨_, S', I', rfl, HO.out⟩, hB⟩
end Go.Proofs.Ythgbfgdnljgicaa
