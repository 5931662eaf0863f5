/-
  TripleOrders of the program returns what TripleOrders of the reference returns. Conditions: none.
-/
import Derived.Test.YtjoihaghoahnlaaBasic
namespace Go.Proofs.Ytjoihaghoahnlaa
open Go.RowKit

def tripleB (v : Int) : Bool := decide (3 ≤ v ∧ v ≤ 27 ∧ (v % 6 = 1 ∨ v % 6 = 3))
def ordersL : List Int := [3, 7, 9, 13, 15, 19, 21, 25, 27]
/-- The orders among 3, 4, .. (k numbers). -/
def ordersTo (k : Nat) : List Int := ((List.range k).map fun (j : Nat) => 3 + (j : Int)).filter tripleB
theorem ordersTo_succ (k : Nat) : ordersTo (k + 1) = ordersTo k ++ if tripleB (3 + (k : Int)) = true then [3 + (k : Int)] else [] := by
  unfold ordersTo
  rw [List.range_succ, List.map_append, List.filter_append]
  simp [List.filter_cons]
theorem ordersTo_all : ordersTo 25 = ordersL := by decide
theorem ordersTo_le (k : Nat) : (ordersTo k).length ≤ k := by
  unfold ordersTo
  have := List.length_filter_le tripleB ((List.range k).map fun (j : Nat) => 3 + (j : Int))
  simpa using this

set_option maxHeartbeats 400000 in
theorem isTripleOrder_c (v : Int) (w : World) : Calls Try.prog 52 #[.int .i64 v] w fun e w' => e = .returned (.bool (tripleB v)) ∧ w = w' := by
  by_cases h : 3 ≤ v ∧ v ≤ 27
  · obtain ⟨h1, h2⟩ := h
    have hw := within_c v 3 27
    rw [inB_true.2 ⟨h1, h2⟩] at hw
    have HW := Lib.hid hw
    clear hw
    by_cases h3 : v % 6 = 1
    · have hb : tripleB v = true := decide_eq_true ⟨h1, h2, .inl h3⟩
      have h3' : (v % 6 == 1) = true := by simp [h3]
      rw [hb]
      clear hb h3
      go_enter Try.func52, Try.ntmps52
      go_wp2_with (go_at_call 55; refine (HW.out _).mono ?_; rintro e w1 ⟨rfl, rfl⟩)
      go_ret
      exact ⟨rfl, rfl⟩
    · have h3' : (v % 6 == 1) = false := by simp [h3]
      by_cases h4 : v % 6 = 3
      · have hb : tripleB v = true := decide_eq_true ⟨h1, h2, .inr h4⟩
        have h4' : (v % 6 == 3) = true := by simp [h4]
        rw [hb]
        clear hb h3 h4
        go_enter Try.func52, Try.ntmps52
        go_wp2_with (go_at_call 55; refine (HW.out _).mono ?_; rintro e w1 ⟨rfl, rfl⟩)
        go_ret
        exact ⟨rfl, rfl⟩
      · have hb : tripleB v = false := decide_eq_false (by omega)
        have h4' : (v % 6 == 3) = false := by simp [h4]
        rw [hb]
        clear hb h3 h4
        go_enter Try.func52, Try.ntmps52
        go_wp2_with (go_at_call 55; refine (HW.out _).mono ?_; rintro e w1 ⟨rfl, rfl⟩)
        go_ret
        exact ⟨rfl, rfl⟩
  · have hb : tripleB v = false := decide_eq_false (by omega)
    have hw := within_c v 3 27
    rw [inB_false.2 h] at hw
    have HW := Lib.hid hw
    rw [hb]
    clear hw hb h
    go_enter Try.func52, Try.ntmps52
    go_wp2_with (go_at_call 55; refine (HW.out _).mono ?_; rintro e w1 ⟨rfl, rfl⟩)
    go_ret
    exact ⟨rfl, rfl⟩

set_option maxHeartbeats 400000 in
theorem specTripleOrders_c (w : World) : Calls Try.prog 15 #[] w fun e w' => (∃ A c, e = .returned (.slice A 9 c) ∧ OwnI w' w.heap.size A c ordersL) ∧ Below w.heap.size w w' := by
  have ho := World.ownsRow_lit (e := 2) (size := 1) w #[.int .i64 3, .int .i64 7, .int .i64 9, .int .i64 13, .int .i64 15, .int .i64 19, .int .i64 21, .int .i64 25, .int .i64 27] 9 (Nat.le_refl w.heap.size) (by unfold maxLen; omega) rfl
  have HO := Lib.hid ho
  clear ho
  go_enter Try.func15, Try.ntmps15
  go_wp2
  go_ret
  exact ⟨⟨_, _, rfl, HO.out⟩, (Below.refl _ _).alloc (Nat.le_refl _) _⟩

set_option maxHeartbeats 400000 in
theorem implTripleOrders_c (w : World) : Calls Try.prog 16 #[] w fun e w' => (∃ A c, e = .returned (.slice A 9 c) ∧ OwnI w' w.heap.size A c ordersL) ∧ Below w.heap.size w w' := by
  go_enter Try.func16, Try.ntmps16
  go_wp2
  go_loopw [1, 2] (fun o v wr => ∃ (k : Nat) (A : Option Addr) (n c : Nat), k ≤ 25 ∧ v = .int .i64 (3 + (k : Int)) ∧ o = .slice A n c ∧ Hid ((ordersTo k).length = n) ∧ n ≤ k ∧ OwnI wr w.heap.size A c (ordersTo k) ∧ Below w.heap.size w wr) (fun _ v _ => 28 - (intOf v).toNat)
  case atStart => exact ⟨0, none, 0, 0, by omega, rfl, rfl, rfl, by omega, OwnI.nil_ _ _, Below.refl _ _⟩
  case round =>
    obtain ⟨k, A, n, c, hk, rfl, rfl, hn, hnk, ho, hB⟩ := hrel
    by_cases hlt : k < 25
    · have hs := ordersTo_succ k
      by_cases ht : tripleB (3 + (k : Int)) = true
      · have hw := isTripleOrder_c (3 + (k : Int))
        rw [ht] at hw
        rw [if_pos ht] at hs
        have HW := Lib.hid hw
        have HS := Lib.hid hs
        have HO := Lib.hid (ho.alloc (.cells #[.int .i64 (3 + (k : Int))] 2))
        have hz := hB.size
        clear hw ht hs ho
        go_wp2_with (first
          | (go_at_call 52; refine (HW.out _).mono ?_; rintro e w1 ⟨rfl, rfl⟩)
          | (at_builtin
             refine wpI_append rfl _ _ rfl w.heap.size _ _ _ (ordersTo k) (3 + (k : Int)) wr.heap.size rfl rfl hn.out HO.out (World.cell?_alloc_at _ _ _ _ rfl) (by omega) (by simp; omega) ?_
             intro A' c' w' ho' hg' ha'))
        have hB' : Below w.heap.size w w' := (hB.alloc hz _).grown hg' (by simp; omega) (fun g e => by
          rcases HO.out.form with ⟨e1, _⟩ | ⟨g1, e1, hl1, _⟩
          · rw [e1] at e; simp [blk] at e
          · rw [e1, blk_some] at e; injection e with e; omega)
        have HO' := Lib.hid ho'
        clear ho' hg' ha'
        go_wp2
        go_roundw
        case rel => exact ⟨k + 1, A', n + 1, c', by omega, by go_num, rfl, by show _ = _; rw [HS.out, List.length_append, hn.out]; rfl, by omega, by rw [HS.out]; exact HO'.out, hB'⟩
        case measure => simp [intOf]; omega
      · have ht' : tripleB (3 + (k : Int)) = false := by simpa using ht
        have hw := isTripleOrder_c (3 + (k : Int))
        rw [ht'] at hw
        rw [if_neg ht, List.append_nil] at hs
        have HW := Lib.hid hw
        have HS := Lib.hid hs
        have HO := Lib.hid ho
        clear hw ht ht' hs ho
        go_wp2_with (go_at_call 52; refine (HW.out _).mono ?_; rintro e w1 ⟨rfl, rfl⟩)
        go_roundw
        case rel => exact ⟨k + 1, A, n, c, by omega, by go_num, rfl, by show _ = _; rw [HS.out]; exact hn.out, by omega, by rw [HS.out]; exact HO.out, hB⟩
        case measure => simp [intOf]; omega
    · obtain rfl : k = 25 := by omega
      have hn' := hn.out
      rw [ordersTo_all] at ho hn'
      obtain rfl : n = 9 := hn'.symm
      have HO := Lib.hid ho
      clear ho hn'
      go_wp2
      go_ret
      exact ⟨⟨_, _, rfl, HO.out⟩, hB⟩
end Go.Proofs.Ytjoihaghoahnlaa
