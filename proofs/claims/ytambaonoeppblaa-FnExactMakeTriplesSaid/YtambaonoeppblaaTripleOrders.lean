/-
  TripleOrders of the program returns what TripleOrders of the reference returns. Conditions: none.
-/
import Derived.Test.YtambaonoeppblaaBasic
namespace Go.Proofs.Ytambaonoeppblaa
open Go.RowKit
set_option linter.unusedVariables false
set_option linter.unusedSimpArgs false

def tripleB (v : Int) : Bool := decide (3 ≤ v ∧ v ≤ 27 ∧ (v % 6 = 1 ∨ v % 6 = 3))
def ordersL : List Int := [3, 7, 9, 13, 15, 19, 21, 25, 27]
/-- The orders among 3, 4, .. (k numbers). -/
def ordersTo (k : Nat) : List Int := ((List.range k).map fun (j : Nat) => 3 + (j : Int)).filter tripleB
theorem ordersTo_succ (k : Nat) : ordersTo (k + 1) = ordersTo k ++ if tripleB (3 + (k : Int)) = true then [3 + (k : Int)] else [] := by
  unfold ordersTo
  rw [List.range_succ, List.map_append, List.filter_append]
  simp [List.filter_cons]
theorem ordersTo_all : ordersTo 25 = ordersL := by decide
theorem ordersTo_le (k : Nat) : (ordersTo k).length ≤ k := by
  unfold ordersTo
  have := List.length_filter_le tripleB ((List.range k).map fun (j : Nat) => 3 + (j : Int))
  simpa using this

set_option maxHeartbeats 400000 in
theorem isTripleOrder_c (v : Int) (w : World) : Calls Try.prog 23 #[.int .i64 v] w fun e w' => e = .returned (.bool (tripleB v)) ∧ w = w' := by
  by_cases h : 3 ≤ v ∧ v ≤ 27
  · obtain ⟨h1, h2⟩ := h
    have hw := within_c v 3 27
    rw [inB_true.2 ⟨h1, h2⟩] at hw
    have HW := Lib.hid hw
    clear hw
    by_cases h3 : v % 6 = 1
    · have hb : tripleB v = true := decide_eq_true ⟨h1, h2, .inl h3⟩
      have h3' : (v % 6 == 1) = true := by simp [h3]
      rw [hb]
      clear hb h3
      go_enter Try.func23, Try.ntmps23
      go_wp2_with (go_at_call 48; refine (HW.out _).mono ?_; rintro e w1 ⟨rfl, rfl⟩)
      go_ret
      exact ⟨rfl, rfl⟩
    · have h3' : (v % 6 == 1) = false := by simp [h3]
      by_cases h4 : v % 6 = 3
      · have hb : tripleB v = true := decide_eq_true ⟨h1, h2, .inr h4⟩
        have h4' : (v % 6 == 3) = true := by simp [h4]
        rw [hb]
        clear hb h3 h4
        go_enter Try.func23, Try.ntmps23
        go_wp2_with (go_at_call 48; refine (HW.out _).mono ?_; rintro e w1 ⟨rfl, rfl⟩)
        go_ret
        exact ⟨rfl, rfl⟩
      · have hb : tripleB v = false := decide_eq_false (by omega)
        have h4' : (v % 6 == 3) = false := by simp [h4]
        rw [hb]
        clear hb h3 h4
        go_enter Try.func23, Try.ntmps23
        go_wp2_with (go_at_call 48; refine (HW.out _).mono ?_; rintro e w1 ⟨rfl, rfl⟩)
        go_ret
        exact ⟨rfl, rfl⟩
  · have hb : tripleB v = false := decide_eq_false (by omega)
    have hw := within_c v 3 27
    rw [inB_false.2 h] at hw
    have HW := Lib.hid hw
    rw [hb]
    clear hw hb h
    go_enter Try.func23, Try.ntmps23
    go_wp2_with (go_at_call 48; refine (HW.out _).mono ?_; rintro e w1 ⟨rfl, rfl⟩)
    go_ret
    exact ⟨rfl, rfl⟩

set_option maxHeartbeats 400000 in
theorem specTripleOrders_c (w : World) : Calls Try.prog 21 #[] w fun e w' => (∃ A c, e = .returned (.slice A 9 c) ∧ OwnI w' w.heap.size A c ordersL) ∧ Below w.heap.size w w' := by
  have ho := World.ownsRow_lit (e := 2) (size := 1) w #[.int .i64 3, .int .i64 7, .int .i64 9, .int .i64 13, .int .i64 15, .int .i64 19, .int .i64 21, .int .i64 25, .int .i64 27] 9 (Nat.le_refl w.heap.size) (by unfold maxLen; omega) rfl
  have HO := Lib.hid ho
  clear ho
  go_enter Try.func21, Try.ntmps21
  go_wp2
  go_ret
  exact ⟨⟨_, _, rfl, HO.out⟩, (Below.refl _ _).alloc (Nat.le_refl _) _⟩

end Go.Proofs.Ytambaonoeppblaa
