/-
  Lists of numbers compared: CompareLists of the reference, slices.Compare and cmp.Compare of the library. Conditions: those of each theorem.
-/
import Derived.Test.YthgbfgdnljgicabSet
namespace Go.Proofs.Ythgbfgdnljgicab
open Go.RowKit
set_option linter.unusedVariables false
set_option linter.unusedSimpArgs false

/-- The order of the dictionary: -1, 0 or 1. -/
def cmpL : List Int → List Int → Int
  | [], [] => 0
  | [], _ :: _ => -1
  | _ :: _, [] => 1
  | a :: l, b :: m => if a < b then -1 else if b < a then 1 else cmpL l m

theorem cmpL_bd (a b : List Int) : -1 ≤ cmpL a b ∧ cmpL a b ≤ 1 := by
  induction a generalizing b with
  | nil => cases b <;> simp [cmpL]
  | cons x xs ih =>
    cases b with
    | nil => simp [cmpL]
    | cons y ys =>
      simp only [cmpL]
      split
      · omega
      · split
        · omega
        · exact ih ys
theorem cmpL_self (a : List Int) : cmpL a a = 0 := by
  induction a with
  | nil => rfl
  | cons x xs ih => simp [cmpL, ih]
theorem cmpL_zero {a b : List Int} (h : cmpL a b = 0) : a = b := by
  induction a generalizing b with
  | nil => cases b with
    | nil => rfl
    | cons y ys => simp [cmpL] at h
  | cons x xs ih =>
    cases b with
    | nil => simp [cmpL] at h
    | cons y ys =>
      simp only [cmpL] at h
      split at h
      · omega
      · split at h
        · omega
        · rw [ih h]; congr 1; omega
theorem cmpL_neg (a b : List Int) : cmpL a b = -cmpL b a := by
  induction a generalizing b with
  | nil => cases b <;> simp [cmpL]
  | cons x xs ih =>
    cases b with
    | nil => simp [cmpL]
    | cons y ys =>
      simp only [cmpL]
      by_cases h1 : x < y
      · rw [if_pos h1, if_neg (by omega), if_pos h1]
      · by_cases h2 : y < x
        · rw [if_neg h1, if_pos h2, if_pos h2]; rfl
        · rw [if_neg h1, if_neg h2, if_neg h2, if_neg h1]; exact ih ys
theorem cmpL_trans {a b c : List Int} (h1 : cmpL a b ≤ 0) (h2 : cmpL b c ≤ 0) : cmpL a c ≤ 0 := by
  induction a generalizing b c with
  | nil => cases c <;> simp [cmpL]
  | cons x xs ih =>
    cases b with
    | nil => simp [cmpL] at h1
    | cons y ys =>
      cases c with
      | nil => simp [cmpL] at h2
      | cons z zs =>
        simp only [cmpL] at h1 h2 ⊢
        by_cases e1 : x < y
        · by_cases e2 : z < y
          · rw [if_neg (by omega), if_pos e2] at h2; omega
          · rw [if_pos (by omega)]; omega
        · rw [if_neg e1] at h1
          by_cases e3 : y < x
          · rw [if_pos e3] at h1; omega
          · rw [if_neg e3] at h1
            obtain rfl : x = y := by omega
            by_cases e4 : x < z
            · rw [if_pos e4]; omega
            · rw [if_neg e4] at h2 ⊢
              by_cases e5 : z < x
              · rw [if_pos e5] at h2; omega
              · rw [if_neg e5] at h2 ⊢
                exact ih h1 h2
theorem drop_nth {xs : List Int} {k : Nat} (h : k < xs.length) : xs.drop k = nth xs k :: xs.drop (k + 1) := by
  rw [List.drop_eq_getElem_cons h, nth_eq h]
theorem cmpL_drop {xs ys : List Int} {k : Nat} (h1 : k < xs.length) (h2 : k < ys.length) :
    cmpL (xs.drop k) (ys.drop k) = if nth xs k < nth ys k then -1 else if nth ys k < nth xs k then 1 else cmpL (xs.drop (k + 1)) (ys.drop (k + 1)) := by
  rw [drop_nth h1, drop_nth h2]; rfl
theorem cmpL_end {xs ys : List Int} {k : Nat} (h : xs.length ≤ k ∨ ys.length ≤ k) (hk1 : k ≤ xs.length) (hk2 : k ≤ ys.length) :
    cmpL (xs.drop k) (ys.drop k) = if xs.length < ys.length then -1 else if ys.length < xs.length then 1 else 0 := by
  rcases Nat.lt_trichotomy xs.length ys.length with e | e | e
  · rw [if_pos e, (List.drop_eq_nil_of_le (by omega) : xs.drop k = []), drop_nth (xs := ys) (by omega)]; rfl
  · rw [if_neg (by omega), if_neg (by omega), (List.drop_eq_nil_of_le (by omega) : xs.drop k = []), (List.drop_eq_nil_of_le (by omega) : ys.drop k = [])]; rfl
  · rw [if_neg (by omega), if_pos e, (List.drop_eq_nil_of_le (by omega) : ys.drop k = []), drop_nth (xs := xs) (by omega)]; rfl

set_option maxHeartbeats 1000000 in
theorem CompareLists_c (w : World) (A B : Option Addr) (n m c d : Nat) (xs ys : List Int) (hx : RdI w A c xs) (hn : xs.length = n) (hy : RdI w B d ys) (hm : ys.length = m) :
    Calls Try.prog 28 #[.slice A n c, .slice B m d] w (EndQ (.int .i64 (cmpL xs ys)) w) := by
  have hn' : n ≤ 9223372036854775807 := by have h1 := hx.le; have h2 := hx.cap; unfold maxLen at h2; omega
  have hm' : m ≤ 9223372036854775807 := by have h1 := hy.le; have h2 := hy.cap; unfold maxLen at h2; omega
  have HX := Lib.hid hx
  have HY := Lib.hid hy
  have HN := Lib.hid hn
  have HM := Lib.hid hm
  clear hx hy hn hm
  obtain ⟨T, hT⟩ : ∃ T, T = cmpL xs ys := ⟨_, rfl⟩
  rw [← hT]
  have HT := Lib.hid hT
  clear hT
  go_enter Try.func28, Try.ntmps28
  go_wp2
  go_loopw [5] (fun i wr => ∃ k : Nat, k ≤ n ∧ k ≤ m ∧ i = .int .i64 k ∧ Hid (T = cmpL (xs.drop k) (ys.drop k)) ∧ Qt w wr) (fun i _ => n - (intOf i).toNat)
  case atStart => exact ⟨0, Nat.zero_le _, Nat.zero_le _, rfl, HT, Qt.refl w⟩
  case round =>
    obtain ⟨k, hk, hk2, rfl, hC, ⟨q, rfl⟩⟩ := hrel
    by_cases hlt : k < n
    · by_cases hlt2 : k < m
      · obtain ⟨b, off, rfl, hb, hc⟩ := HX.out.at_ k (by rw [HN.out]; exact hlt)
        obtain ⟨b', off', rfl, hb', hc'⟩ := HY.out.at_ k (by rw [HM.out]; exact hlt2)
        have hi0 : (0 : Int) ≤ (k : Int) := by omega
        have hi1 : (k : Int) < (n : Int) := by omega
        have hi2 : (k : Int) < (m : Int) := by omega
        have HD := Lib.hid (hC.out.trans (cmpL_drop (xs := xs) (ys := ys) (k := k) (by rw [HN.out]; exact hlt) (by rw [HM.out]; exact hlt2)))
        obtain ⟨x, hx⟩ : ∃ x, x = nth xs k := ⟨_, rfl⟩
        obtain ⟨y, hy⟩ : ∃ y, y = nth ys k := ⟨_, rfl⟩
        rw [← hx] at hc HD
        rw [← hy] at hc' HD
        clear hx hy
        by_cases h1 : x < y
        · have HF := Lib.hid (show T = -1 by rw [HD.out, if_pos h1])
          go_wp2
          go_quiet (fail)
          go_wp2
          go_ret
          exact ⟨ret_i HF.out.symm, qt2 _ _ _⟩
        · by_cases h2 : y < x
          · have HF := Lib.hid (show T = 1 by rw [HD.out, if_neg h1, if_pos h2])
            have h1' : decide (x < y) = false := by simp; omega
            go_wp2
            go_quiet (fail)
            go_wp2
            go_quiet (fail)
            go_wp2
            go_ret
            exact ⟨ret_i HF.out.symm, by first | exact qt2 _ _ _ | exact ⟨_, by rw [World.drewN_drewN, World.drewN_drewN]⟩⟩
          · have HF := Lib.hid (show T = cmpL (xs.drop (k + 1)) (ys.drop (k + 1)) by rw [HD.out, if_neg h1, if_neg h2])
            have h1' : decide (x < y) = false := by simp; omega
            have h2' : decide (y < x) = false := by simp; omega
            go_wp2
            go_quiet (fail)
            go_wp2
            go_quiet (fail)
            go_wp2
            go_roundw
            case rel => exact ⟨k + 1, by omega, by omega, by go_num, HF, by first | exact qt2 _ _ _ | exact ⟨_, by rw [World.drewN_drewN, World.drewN_drewN]⟩ | exact ⟨_, rfl⟩⟩
            case measure => simp [intOf]; omega
      · obtain rfl : k = m := by omega
        have HF := Lib.hid (show T = 1 by rw [hC.out, cmpL_end (.inr (by rw [HM.out]; omega)) (by rw [HN.out]; omega) (by rw [HM.out]; omega), HN.out, HM.out, if_neg (by omega), if_pos hlt])
        go_wp2
        go_ret
        exact ⟨ret_i HF.out.symm, q, rfl⟩
    · obtain rfl : k = n := by omega
      by_cases h1 : k < m
      · have HF := Lib.hid (show T = -1 by rw [hC.out, cmpL_end (.inl (by rw [HN.out]; omega)) (by rw [HN.out]; omega) (by rw [HM.out]; omega), HN.out, HM.out, if_pos h1])
        go_wp2
        go_ret
        exact ⟨ret_i HF.out.symm, q, rfl⟩
      · obtain rfl : k = m := by omega
        have HF := Lib.hid (show T = 0 by rw [hC.out, cmpL_end (.inl (by rw [HN.out]; omega)) (by rw [HN.out]; omega) (by rw [HM.out]; omega), HN.out, HM.out, if_neg h1, if_neg h1])
        go_wp2
        go_ret
        exact ⟨ret_i HF.out.symm, q, rfl⟩

/-! ### The library's -/

theorem isNaN_c (x : Int) (w : World) : Calls Try.prog 65 #[.int .i64 x] w fun e w' => e = .returned (.bool false) ∧ w = w' := by
  have h : (x != x) = false := by simp
  go_enter Try.func65, Try.ntmps65
  go_wp2
  go_ret
  exact ⟨rfl, rfl⟩
def cmpI (x y : Int) : Int := if x < y then -1 else if y < x then 1 else 0
set_option maxHeartbeats 400000 in
theorem cmpI_c (x y : Int) (w : World) : Calls Try.prog 50 #[.int .i64 x, .int .i64 y] w fun e w' => e = .returned (.int .i64 (cmpI x y)) ∧ w = w' := by
  by_cases h1 : x < y
  · rw [show cmpI x y = -1 by simp [cmpI, h1]]
    go_enter Try.func50, Try.ntmps50
    go_wp2_with (go_at_call 65; refine (isNaN_c _ _).mono ?_; rintro e w' ⟨rfl, rfl⟩)
    go_ret
    exact ⟨rfl, rfl⟩
  · by_cases h2 : y < x
    · rw [show cmpI x y = 1 by simp [cmpI, h1, h2]]
      go_enter Try.func50, Try.ntmps50
      go_wp2_with (go_at_call 65; refine (isNaN_c _ _).mono ?_; rintro e w' ⟨rfl, rfl⟩)
      go_ret
      exact ⟨rfl, rfl⟩
    · rw [show cmpI x y = 0 by simp [cmpI, h1, h2]]
      go_enter Try.func50, Try.ntmps50
      go_wp2_with (go_at_call 65; refine (isNaN_c _ _).mono ?_; rintro e w' ⟨rfl, rfl⟩)
      go_ret
      exact ⟨rfl, rfl⟩

set_option maxHeartbeats 1000000 in
theorem Compare_c (w : World) (A B : Option Addr) (n m c d : Nat) (xs ys : List Int) (hx : RdI w A c xs) (hn : xs.length = n) (hy : RdI w B d ys) (hm : ys.length = m) :
    Calls Try.prog 37 #[.slice A n c, .slice B m d] w fun e w' => e = .returned (.int .i64 (cmpL xs ys)) ∧ w = w' := by
  have hn' : n ≤ 9223372036854775807 := by have h1 := hx.le; have h2 := hx.cap; unfold maxLen at h2; omega
  have hm' : m ≤ 9223372036854775807 := by have h1 := hy.le; have h2 := hy.cap; unfold maxLen at h2; omega
  have HX := Lib.hid hx
  have HY := Lib.hid hy
  have HN := Lib.hid hn
  have HM := Lib.hid hm
  clear hx hy hn hm
  obtain ⟨T, hT⟩ : ∃ T, T = cmpL xs ys := ⟨_, rfl⟩
  rw [← hT]
  have HT := Lib.hid hT
  clear hT
  go_enter Try.func37, Try.ntmps37
  go_wp2
  go_loop [11] (fun i => ∃ k : Nat, k ≤ n ∧ k ≤ m ∧ i = .int .i64 k ∧ Hid (T = cmpL (xs.drop k) (ys.drop k))) (fun i => n - (intOf i).toNat)
  case atStart => exact ⟨0, Nat.zero_le _, Nat.zero_le _, rfl, HT⟩
  case round =>
    obtain ⟨k, hk, hk2, rfl, hC⟩ := hrel
    by_cases hlt : k < n
    · obtain ⟨b, off, rfl, hb, hc⟩ := HX.out.at_ k (by rw [HN.out]; exact hlt)
      by_cases hlt2 : k < m
      · obtain ⟨b', off', rfl, hb', hc'⟩ := HY.out.at_ k (by rw [HM.out]; exact hlt2)
        have HD := Lib.hid (hC.out.trans (cmpL_drop (xs := xs) (ys := ys) (k := k) (by rw [HN.out]; exact hlt) (by rw [HM.out]; exact hlt2)))
        obtain ⟨x, hx⟩ : ∃ x, x = nth xs k := ⟨_, rfl⟩
        obtain ⟨y, hy⟩ : ∃ y, y = nth ys k := ⟨_, rfl⟩
        rw [← hx] at hc HD
        rw [← hy] at hc' HD
        clear hx hy
        have hcall := cmpI_c x y
        by_cases h1 : x < y
        · have HF := Lib.hid (show T = -1 by rw [HD.out, if_pos h1])
          rw [show cmpI x y = -1 by simp [cmpI, h1]] at hcall
          have HC := Lib.hid hcall
          clear hcall
          go_wp2_with (go_at_call 50; refine (HC.out _).mono ?_; rintro e w' ⟨rfl, rfl⟩)
          go_ret
          exact ⟨ret_i HF.out.symm, rfl⟩
        · by_cases h2 : y < x
          · have HF := Lib.hid (show T = 1 by rw [HD.out, if_neg h1, if_pos h2])
            rw [show cmpI x y = 1 by simp [cmpI, h1, h2]] at hcall
            have HC := Lib.hid hcall
            clear hcall
            go_wp2_with (go_at_call 50; refine (HC.out _).mono ?_; rintro e w' ⟨rfl, rfl⟩)
            go_ret
            exact ⟨ret_i HF.out.symm, rfl⟩
          · have HF := Lib.hid (show T = cmpL (xs.drop (k + 1)) (ys.drop (k + 1)) by rw [HD.out, if_neg h1, if_neg h2])
            rw [show cmpI x y = 0 by simp [cmpI, h1, h2]] at hcall
            have HC := Lib.hid hcall
            clear hcall
            go_wp2_with (go_at_call 50; refine (HC.out _).mono ?_; rintro e w' ⟨rfl, rfl⟩)
            go_round
            case rel => exact ⟨k + 1, by omega, by omega, by go_num, HF⟩
            case measure => simp [intOf]; omega
      · obtain rfl : k = m := by omega
        have HF := Lib.hid (show T = 1 by rw [hC.out, cmpL_end (.inr (by rw [HM.out]; omega)) (by rw [HN.out]; omega) (by rw [HM.out]; omega), HN.out, HM.out, if_neg (by omega), if_pos hlt])
        go_wp2
        go_ret
        exact ⟨ret_i HF.out.symm, rfl⟩
    · obtain rfl : k = n := by omega
      by_cases h1 : k < m
      · have HF := Lib.hid (show T = -1 by rw [hC.out, cmpL_end (.inl (by rw [HN.out]; omega)) (by rw [HN.out]; omega) (by rw [HM.out]; omega), HN.out, HM.out, if_pos h1])
        go_wp2
        go_ret
        exact ⟨ret_i HF.out.symm, rfl⟩
      · obtain rfl : k = m := by omega
        have HF := Lib.hid (show T = 0 by rw [hC.out, cmpL_end (.inl (by rw [HN.out]; omega)) (by rw [HN.out]; omega) (by rw [HM.out]; omega), HN.out, HM.out, if_neg h1, if_neg h1])
        go_wp2
        go_ret
        exact ⟨ret_i HF.out.symm, rfl⟩
end Go.Proofs.Ythgbfgdnljgicab
