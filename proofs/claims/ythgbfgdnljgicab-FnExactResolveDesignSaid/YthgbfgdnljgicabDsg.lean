/-
  The laws' helpers over designs: szDesign, eqDesign, markDesign, heldDesign, toDesign. Conditions: those of each theorem.
-/
import Derived.Test.YthgbfgdnljgicabLawKit
import Derived.Test.YthgbfgdnljgicabSquare
namespace Go.Proofs.Ythgbfgdnljgicab
open Go.RowKit
set_option linter.unusedVariables false
set_option linter.unusedSimpArgs false

theorem below_boxed (w : World) (o : Obj) : Below w.heap.size w (w.alloc o) := (Below.refl _ _).alloc (Nat.le_refl _) _

set_option maxHeartbeats 400000 in
theorem szD_in (w : World) (p : Int) (A : Option Addr) (n c : Nat) (R : Spine) (xss : List (List Int)) (left : Int) (hr : RdM w A c R xss) (hn : xss.length = n) (h0 : (n : Int) + (tot xss : Nat) ≤ left) (h1 : left ≤ 1048576) :
    Calls Try.prog 4 #[.agg #[.int .i64 p, .slice A n c], .int .i64 left] w (PostV w (.int .i64 (left - n - (tot xss : Nat)))) := by
  have HC := Lib.hid (fun (w1 : World) (hB : Below w.heap.size w w1) => szSS_in w1 A n c xss left (hn ▸ (hr.below hB).atL) hn h0 h1)
  have h2 : ¬ left - n - (tot xss : Nat) < 0 := by omega
  obtain ⟨q, hq⟩ : ∃ q, q = left - n - (tot xss : Nat) := ⟨_, rfl⟩
  rw [← hq] at h2 HC ⊢
  clear hr hn h0 h1 hq
  go_enter Try.func4, Try.ntmps4
  go_wp2_with fail
  refine (HC.out _ (below_boxed _ _)).mono ?_
  rintro e w1 ⟨rfl, rfl⟩
  go_wp2
  go_ret
  exact ⟨rfl, below_boxed _ _⟩

set_option maxHeartbeats 400000 in
theorem szD_out (w : World) (p : Int) (A : Option Addr) (n c : Nat) (R : Spine) (xss : List (List Int)) (left : Int) (hr : RdM w A c R xss) (hn : xss.length = n) (h0 : left < (n : Int) + (tot xss : Nat)) (h1 : 0 ≤ left) (h2 : left ≤ 1048576) :
    Calls Try.prog 4 #[.agg #[.int .i64 p, .slice A n c], .int .i64 left] w (PostV w (.int .i64 (-1))) := by
  have hm : n ≤ 9223372036854775807 := by have h1 := hr.le; have h2 := hr.cap; unfold maxLen at h2; omega
  have HC := Lib.hid (fun (w1 : World) (hB : Below w.heap.size w w1) => szSS_out w1 A n c xss left (hn ▸ (hr.below hB).atL) hn h0 h1 h2 hm)
  clear hr hn h0 h1 h2 hm
  go_enter Try.func4, Try.ntmps4
  go_wp2_with fail
  refine (HC.out _ (below_boxed _ _)).mono ?_
  rintro e w1 ⟨rfl, rfl⟩
  go_wp2
  go_ret
  exact ⟨rfl, below_boxed _ _⟩

set_option maxHeartbeats 400000 in
/-- eqDesign: whether both designs are one. -/
theorem eqD (w : World) (p p' : Int) {A A' : Option Addr} {n n' c c' : Nat} {R R' : Spine} {xss yss : List (List Int)} (hx : RdM w A c R xss) (hy : RdM w A' c' R' yss) (hn : xss.length = n) (hn' : yss.length = n') (hb : xss.length ≤ 140737488355328)
    (hb' : ∀ k, k < xss.length → (row xss k).length ≤ 140737488355328) :
    Calls Try.prog 9 #[.agg #[.int .i64 p, .slice A n c], .agg #[.int .i64 p', .slice A' n' c']] w (PostV w (.bool (decide (p = p' ∧ xss = yss)))) := by
  by_cases hp : p = p'
  · subst hp
    have HC := Lib.hid (fun (w1 : World) (hB : Below w.heap.size w w1) => eqSS w1 (hx.below hB) (hy.below hB) hn hn' hb hb')
    rw [show decide (p = p ∧ xss = yss) = decide (xss = yss) by simp]
    generalize decide (xss = yss) = q at *
    clear hx hy hn hn' hb hb'
    go_enter Try.func9, Try.ntmps9
    go_wp2_with fail
    refine (HC.out _ ((below_boxed _ _).alloc (by simp) _)).mono ?_
    rintro e w1 ⟨rfl, k, rfl⟩
    cases q
    all_goals go_wp2
    all_goals go_ret
    all_goals exact ⟨rfl, (((below_boxed _ _).alloc (by simp) _).trans (Qt.below ⟨k, rfl⟩ _))⟩
  · rw [show decide (p = p' ∧ xss = yss) = false by simp [hp]]
    have hd : (p != p') = true := by rw [bne_iff_ne]; exact hp
    clear hx hy hn hn' hb hb'
    go_enter Try.func9, Try.ntmps9
    go_wp2
    go_ret
    exact ⟨rfl, (below_boxed _ _).alloc (by simp) _⟩

theorem InM.below {w w' : World} {lo hi : Nat} {A : Option Addr} {c : Nat} {R : Spine} {xss : List (List Int)} (h : InM w lo hi A c R xss) (hb : Below w.heap.size w w') : InM w' lo hi A c R xss :=
  ⟨h.own.below hb, h.top, h.tops⟩
theorem Mid.after {lo hi : Nat} {w w1 w2 : World} (hb : Below w.heap.size w w1) (h : Mid lo hi w1 w2) : Mid lo hi w w2 :=
  ⟨h.os.trans hb.os, h.tape.trans hb.tape, h.output.trans hb.output, Nat.le_trans hb.size h.size, fun k hk ho => (h.block k (Nat.lt_of_lt_of_le hk hb.size) ho).trans (hb.block k hk)⟩

set_option maxHeartbeats 400000 in
theorem markD_v (w : World) (p : Int) {lo hi : Nat} {A : Option Addr} {c n : Nat} {R : Spine} {xss : List (List Int)} (k0 : Int) (h : InM w lo hi A c R xss) (hn : xss.length = n) (h0 : 0 ≤ k0) (hb : k0 + (tot xss : Nat) ≤ 4611686018427387904) :
    Calls Try.prog 10 #[.agg #[.int .i64 p, .slice A n c], .int .i64 k0] w fun e w' => e = .returned (.int .i64 (k0 + (tot xss : Nat))) ∧ (∃ yss, InM w' lo hi A c R yss ∧ Marked k0 n xss yss) ∧ Mid lo hi w w' := by
  have HC := Lib.hid (fun (w1 : World) (hB : Below w.heap.size w w1) => markSS_v w1 k0 (h.below hB) hn h0 hb)
  obtain ⟨q, hq⟩ : ∃ q, q = k0 + ((tot xss : Nat) : Int) := ⟨_, rfl⟩
  rw [← hq] at HC ⊢
  clear h hn h0 hb hq
  go_enter Try.func10, Try.ntmps10
  go_wp2_with fail
  refine (HC.out _ (below_boxed _ _)).mono ?_
  rintro e w1 ⟨rfl, hy, hm⟩
  have HY := Lib.hid hy
  have hm := Mid.after (below_boxed _ _) hm
  clear hy
  go_wp2
  go_ret
  exact ⟨rfl, HY.out, hm⟩

set_option maxHeartbeats 400000 in
/-- toDesign copies the design into new memory. -/
theorem toD (w : World) (p : Int) (A : Option Addr) (n c : Nat) (R : Spine) (xss : List (List Int)) (hx : RdM w A c R xss) (hn : xss.length = n) (hb : n ≤ 4398046511104) (hb2 : ∀ k, k < n → (row xss k).length ≤ 17592186044416) :
    Calls Try.prog 6 #[.agg #[.int .i64 p, .slice A n c]] w fun e w' => (∃ A' R', e = .returned (.agg #[.int .i64 p, .slice A' n n]) ∧ OwnM w' w.heap.size A' n R' xss) ∧ Below w.heap.size w w' := by
  have HC := Lib.hid (fun (w1 : World) (hB : Below w.heap.size w w1) => toSS w1 A n c R xss (hx.below hB) hn hb hb2)
  clear hx hn hb hb2
  go_enter Try.func6, Try.ntmps6
  go_wp2_with fail
  refine (HC.out _ (((below_boxed _ _).alloc (by simp) _).alloc (by simp; omega) _)).mono ?_
  rintro e w1 ⟨⟨A', R', rfl, ho⟩, hb1⟩
  have HO := Lib.hid ho.in_
  have hc0 : w1.cell? ⟨w.heap.size + 1 + 1, 0, none⟩ = some (.int .i64 p) := (hb1.cell (p := ⟨w.heap.size + 1 + 1, 0, none⟩) (by simp)).trans (World.cell?_alloc_at _ _ _ _ (by simp))
  have hc1 : w1.cell? ⟨w.heap.size + 1 + 1, 1, none⟩ = some (.slice none 0 0) := (hb1.cell (p := ⟨w.heap.size + 1 + 1, 1, none⟩) (by simp)).trans (World.cell?_alloc_at _ _ _ _ (by simp))
  have hd0 : w1.cell? ⟨w.heap.size + 1, 0, none⟩ = some (.int .i64 0) := (hb1.cell (p := ⟨w.heap.size + 1, 0, none⟩) (by simp)).trans (by simp [go_sem])
  have hd1 : w1.cell? ⟨w.heap.size + 1, 1, none⟩ = some (.slice none 0 0) := (hb1.cell (p := ⟨w.heap.size + 1, 1, none⟩) (by simp)).trans (by simp [go_sem])
  have hf0 : w1.frozen? ⟨w.heap.size + 1 + 1, 1, none⟩ = false := (hb1.frozen (p := ⟨w.heap.size + 1 + 1, 1, none⟩) (by simp)).trans (by simp [go_sem])
  have hg0 : w1.frozen? ⟨w.heap.size + 1, 0, none⟩ = false := (hb1.frozen (p := ⟨w.heap.size + 1, 0, none⟩) (by simp)).trans (by simp [go_sem])
  have hg1 : w1.frozen? ⟨w.heap.size + 1, 1, none⟩ = false := (hb1.frozen (p := ⟨w.heap.size + 1, 1, none⟩) (by simp)).trans (by simp [go_sem])
  have hs1 := hb1.size
  clear ho
  go_wp2
  refine bodyPost_ret (v := .agg #[.int .i64 p, .slice A' n n]) (by simp [results, Try.results6, go_sem, hc0, hc1, hd0, hd1]) rfl ⟨⟨A', R', rfl, ?_⟩, ?_⟩
  · exact (HO.out.step (fun k h1 h2 => by
      simp at h1
      rw [Below.heap_setCell _ _ _ _ (by simp; omega), Below.heap_setCell _ _ _ _ (by simp; omega), Below.heap_setCell _ _ _ _ (by simp; omega)])).own.lower (by simp; omega)
  · exact (((((below_boxed _ _).alloc (by simp) _).alloc (by simp; omega) _).trans (hb1.mono (by simp; omega))).setCell (by simp; omega) _ |>.setCell (by simp) _ |>.setCell (by simp) _)

theorem eqD_v (w : World) (p : Int) {A A' : Option Addr} {n c c' : Nat} {R R' : Spine} {xss : List (List Int)} (hx : RdM w A c R xss) (hy : RdM w A' c' R' xss) (hn : xss.length = n) (hb : xss.length ≤ 140737488355328)
    (hb' : ∀ k, k < xss.length → (row xss k).length ≤ 140737488355328) :
    Calls Try.prog 9 #[.agg #[.int .i64 p, .slice A n c], .agg #[.int .i64 p, .slice A' n c']] w (PostV w (.bool true)) := by
  have h := eqD w p p hx hy hn hn hb hb'
  rw [decide_eq_true ⟨rfl, rfl⟩] at h
  exact h

/-- It returned a design of its own memory, and a code. -/
def PostDC (w : World) (p : Int) (xss : List (List Int)) (k : Int) (e : Ending) (w' : World) : Prop :=
  (∃ A n c R, e = .returned (.tuple #[.agg #[.int .i64 p, .slice A n c], .int .i64 k]) ∧ xss.length = n ∧ OwnM w' w.heap.size A c R xss) ∧ Below w.heap.size w w'
end Go.Proofs.Ythgbfgdnljgicab
