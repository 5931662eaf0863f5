/-
  The laws' helpers over designs: szDesign, eqDesign, markDesign, heldDesign, toDesign. Conditions: those of each theorem.
-/
import Derived.Test.YthgbfgdnljgicaaLawKit
import Derived.Test.YthgbfgdnljgicaaSquare
namespace Go.Proofs.Ythgbfgdnljgicaa
open Go.RowKit
set_option linter.unusedVariables false
set_option linter.unusedSimpArgs false

theorem below_boxed (w : World) (o : Obj) : Below w.heap.size w (w.alloc o) := (Below.refl _ _).alloc (Nat.le_refl _) _

set_option maxHeartbeats 400000 in
/-- eqDesign: whether both designs are one. -/
theorem eqD (w : World) (p p' : Int) {A A' : Option Addr} {n n' c c' : Nat} {R R' : Spine} {xss yss : List (List Int)} (hx : RdM w A c R xss) (hy : RdM w A' c' R' yss) (hn : xss.length = n) (hn' : yss.length = n') (hb : xss.length ≤ 140737488355328)
    (hb' : ∀ k, k < xss.length → (row xss k).length ≤ 140737488355328) :
    Calls Try.prog 8 #[.agg #[.int .i64 p, .slice A n c], .agg #[.int .i64 p', .slice A' n' c']] w (PostV w (.bool (decide (p = p' ∧ xss = yss)))) := by
  by_cases hp : p = p'
  · subst hp
    have HC := Lib.hid (fun (w1 : World) (hB : Below w.heap.size w w1) => eqSS w1 (hx.below hB) (hy.below hB) hn hn' hb hb')
    rw [show decide (p = p ∧ xss = yss) = decide (xss = yss) by simp]
    generalize decide (xss = yss) = q at *
    clear hx hy hn hn' hb hb'
    go_enter Try.func8, Try.ntmps8
    go_wp2_with fail
    refine (HC.out _ ((below_boxed _ _).alloc (by simp) _)).mono ?_
    rintro e w1 ⟨rfl, k, rfl⟩
    cases q
    all_goals go_wp2
    all_goals go_ret
    all_goals exact ⟨rfl, (((below_boxed _ _).alloc (by simp) _).trans (Qt.below ⟨k, rfl⟩ _))⟩
  · rw [show decide (p = p' ∧ xss = yss) = false by simp [hp]]
    have hd : (p != p') = true := by rw [bne_iff_ne]; exact hp
    clear hx hy hn hn' hb hb'
    go_enter Try.func8, Try.ntmps8
    go_wp2
    go_ret
    exact ⟨rfl, (below_boxed _ _).alloc (by simp) _⟩

set_option maxHeartbeats 400000 in
theorem heldD_v (w : World) (p : Int) {A : Option Addr} {c n : Nat} {R : Spine} {xss yss : List (List Int)} (k0 : Int) (h : RdM w A c R yss) (hM : Marked k0 n xss yss) (hn : xss.length = n) (h0 : 0 ≤ k0) (hb : k0 + (tot xss : Nat) ≤ 4611686018427387904) :
    Calls Try.prog 12 #[.agg #[.int .i64 p, .slice A n c], .int .i64 k0] w (PostV w (.int .i64 (k0 + (tot xss : Nat)))) := by
  have HC := Lib.hid (fun (w1 : World) (hB : Below w.heap.size w w1) => heldSS w1 A c R xss yss n k0 (h.below hB) hM hn h0 hb)
  have h2 : ¬ k0 + (tot xss : Nat) < 0 := by omega
  obtain ⟨q, hq⟩ : ∃ q, q = k0 + ((tot xss : Nat) : Int) := ⟨_, rfl⟩
  rw [← hq] at h2 HC ⊢
  clear h hM hn h0 hb hq
  go_enter Try.func12, Try.ntmps12
  go_wp2_with fail
  refine (HC.out _ (below_boxed _ _)).mono ?_
  rintro e w1 ⟨rfl, rfl⟩
  go_wp2
  go_ret
  exact ⟨rfl, below_boxed _ _⟩

theorem InM.below {w w' : World} {lo hi : Nat} {A : Option Addr} {c : Nat} {R : Spine} {xss : List (List Int)} (h : InM w lo hi A c R xss) (hb : Below w.heap.size w w') : InM w' lo hi A c R xss :=
  ⟨h.own.below hb, h.top, h.tops⟩
theorem Mid.after {lo hi : Nat} {w w1 w2 : World} (hb : Below w.heap.size w w1) (h : Mid lo hi w1 w2) : Mid lo hi w w2 :=
  ⟨h.os.trans hb.os, h.tape.trans hb.tape, h.output.trans hb.output, Nat.le_trans hb.size h.size, fun k hk ho => (h.block k (Nat.lt_of_lt_of_le hk hb.size) ho).trans (hb.block k hk)⟩

set_option maxHeartbeats 400000 in
theorem markD_v (w : World) (p : Int) {lo hi : Nat} {A : Option Addr} {c n : Nat} {R : Spine} {xss : List (List Int)} (k0 : Int) (h : InM w lo hi A c R xss) (hn : xss.length = n) (h0 : 0 ≤ k0) (hb : k0 + (tot xss : Nat) ≤ 4611686018427387904) :
    Calls Try.prog 11 #[.agg #[.int .i64 p, .slice A n c], .int .i64 k0] w fun e w' => e = .returned (.int .i64 (k0 + (tot xss : Nat))) ∧ (∃ yss, InM w' lo hi A c R yss ∧ Marked k0 n xss yss) ∧ Mid lo hi w w' := by
  have HC := Lib.hid (fun (w1 : World) (hB : Below w.heap.size w w1) => markSS_v w1 k0 (h.below hB) hn h0 hb)
  obtain ⟨q, hq⟩ : ∃ q, q = k0 + ((tot xss : Nat) : Int) := ⟨_, rfl⟩
  rw [← hq] at HC ⊢
  clear h hn h0 hb hq
  go_enter Try.func11, Try.ntmps11
  go_wp2_with fail
  refine (HC.out _ (below_boxed _ _)).mono ?_
  rintro e w1 ⟨rfl, hy, hm⟩
  have HY := Lib.hid hy
  have hm := Mid.after (below_boxed _ _) hm
  clear hy
  go_wp2
  go_ret
  exact ⟨rfl, HY.out, hm⟩

theorem eqD_v (w : World) (p : Int) {A A' : Option Addr} {n c c' : Nat} {R R' : Spine} {xss : List (List Int)} (hx : RdM w A c R xss) (hy : RdM w A' c' R' xss) (hn : xss.length = n) (hb : xss.length ≤ 140737488355328)
    (hb' : ∀ k, k < xss.length → (row xss k).length ≤ 140737488355328) :
    Calls Try.prog 8 #[.agg #[.int .i64 p, .slice A n c], .agg #[.int .i64 p, .slice A' n c']] w (PostV w (.bool true)) := by
  have h := eqD w p p hx hy hn hn hb hb'
  rw [decide_eq_true ⟨rfl, rfl⟩] at h
  exact h

/-- It returned a design of its own memory, and a code. -/
def PostDC (w : World) (p : Int) (xss : List (List Int)) (k : Int) (e : Ending) (w' : World) : Prop :=
  (∃ A n c R, e = .returned (.tuple #[.agg #[.int .i64 p, .slice A n c], .int .i64 k]) ∧ xss.length = n ∧ OwnM w' w.heap.size A c R xss) ∧ Below w.heap.size w w'
end Go.Proofs.Ythgbfgdnljgicaa
