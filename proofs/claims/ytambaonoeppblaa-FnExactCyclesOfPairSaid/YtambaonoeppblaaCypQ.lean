/-
  Lemmas under both walks of CyclesOfPair. Conditions: those of each theorem.
-/
import Derived.Test.YtambaonoeppblaaCypP
import Derived.Test.YtambaonoeppblaaTrpA
namespace Go.Proofs.Ytambaonoeppblaa
open Go.RowKit
set_option linter.unusedVariables false
set_option linter.unusedSimpArgs false

theorem OwnI.pair (w : World) (x y : Int) {lo : Nat} (h : lo ≤ w.heap.size) : OwnI (w.alloc (.cells #[.int .i64 x, .int .i64 y] 2)) lo (some ⟨w.heap.size, 0, none⟩) 2 [x, y] :=
  World.ownsRow_lit (e := 2) (size := 1) w #[.int .i64 x, .int .i64 y] 2 h (by unfold maxLen; omega) rfl
theorem OwnI.some_of {w : World} {lo : Nat} {A : Option Addr} {c : Nat} {xs : List Int} (h : OwnI w lo A c xs) (hp : 0 < xs.length) : ∃ g, A = some ⟨g, 0, none⟩ ∧ lo ≤ g ∧ g < w.heap.size ∧ xs.length ≤ c ∧ c ≤ maxLen := by
  rcases h.form with ⟨_, _, e⟩ | h
  · rw [e] at hp; simp at hp
  · exact h
/-- What is done in the middle of a cycle. -/
def dnK (al be : Nat → Nat) (P : Nat) (D : List Int) (x k : Nat) : List Int := dnTo al be P D x ++ cyL al be x k
theorem dnK_zero (al be : Nat → Nat) (P : Nat) (D : List Int) (x : Nat) : dnK al be P D x 0 = dnTo al be P D x := by simp [dnK, cyL]
theorem dnK_succ (al be : Nat → Nat) (P : Nat) (D : List Int) (x k : Nat) : dnK al be P D x (k + 1) = dnK al be P D x k ++ [((sg al be x k : Nat) : Int), ((al (sg al be x k) : Nat) : Int)] := by
  unfold dnK; rw [cyL_succ, List.append_assoc]
theorem dnTo_len {P : Nat} {E : Nat → Prop} {al be : Nat → Nat} (h : Dih P E al be) {D : List Int} (hD : Clo P E al be D) {x : Nat} (hx : x ≤ P) : (dnTo al be P D x).length ≤ D.length + 2 * P * x := by
  induction x with
  | zero => simp [dnTo]
  | succ x ih =>
    have h1 := ih (by omega)
    unfold dnTo
    rw [Nat.mul_succ]
    split
    · omega
    · next hm =>
      have hc := Clo.all h hD (x := x) (by omega)
      have := (h.per_all (x := x) (by omega) (fun e => hm (hasB_true.2 (hc.e x (by omega) e)))).2.1
      rw [List.length_append, cyL_len]
      omega

theorem RdI.takeC_ {w : World} {A : Option Addr} {c : Nat} {xs : List Int} (h : RdI w A c xs) (k : Nat) : RdI w A c (xs.take k) := by
  refine ⟨Nat.le_trans (by rw [List.length_take]; omega) h.le, h.cap, fun j hj => ?_⟩
  have hj2 : j < k ∧ j < xs.length := by rw [List.length_take] at hj; omega
  obtain ⟨b, off, e, hb, hc⟩ := h.at_ j hj2.2
  exact ⟨b, off, e, hb, by rw [hc]; simp [nth, hj2.1]⟩
theorem stop_ {p : Prop} (h : Hid p) : p := h.out
end Go.Proofs.Ytambaonoeppblaa
