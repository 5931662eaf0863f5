/-
  Membership: l00Has of the reference, slices.Index and slices.Contains of the library; the program's filtered and its kin. Conditions: those of each theorem.
-/
import Derived.Test.YthgbfgdnljgicabValid
namespace Go.Proofs.Ythgbfgdnljgicab
open Go.RowKit
set_option linter.unusedVariables false
set_option linter.unusedSimpArgs false

def hasB (xs : List Int) (x : Int) : Bool := decide (x ∈ xs)
theorem hasB_true {xs : List Int} {x : Int} : hasB xs x = true ↔ x ∈ xs := by simp [hasB]
theorem hasB_false {xs : List Int} {x : Int} : hasB xs x = false ↔ x ∉ xs := by simp [hasB]
theorem mem_nth {xs : List Int} {x : Int} : x ∈ xs ↔ ∃ k, k < xs.length ∧ nth xs k = x := by
  constructor
  · intro h
    obtain ⟨k, hk, e⟩ := List.mem_iff_getElem.1 h
    exact ⟨k, hk, by rw [nth_eq hk]; exact e⟩
  · rintro ⟨k, hk, rfl⟩
    rw [nth_eq hk]
    exact List.getElem_mem hk
theorem hasB_hit {xs : List Int} {x : Int} {k : Nat} (hk : k < xs.length) (h : nth xs k = x) : hasB xs x = true := hasB_true.2 (mem_nth.2 ⟨k, hk, h⟩)
theorem hasB_miss {xs : List Int} {x : Int} (h : ∀ j, j < xs.length → nth xs j ≠ x) : hasB xs x = false := hasB_false.2 fun hm => by
  obtain ⟨k, hk, e⟩ := mem_nth.1 hm
  exact h k hk e

set_option maxHeartbeats 400000 in
theorem has_c (w : World) (A : Option Addr) (n c : Nat) (xs : List Int) (x : Int) (hr : RdI w A c xs) (hn : xs.length = n) :
    Calls Try.prog 31 #[.slice A n c, .int .i64 x] w fun e w' => e = .returned (.bool (hasB xs x)) ∧ w = w' := by
  have hm : n ≤ 9223372036854775807 := by have h1 := hr.le; have h2 := hr.cap; unfold maxLen at h2; omega
  have HR := Lib.hid hr
  have HN := Lib.hid hn
  clear hr hn
  go_enter Try.func31, Try.ntmps31
  go_wp2
  go_loop [5] (fun i => ∃ k : Nat, k ≤ n ∧ i = .int .i64 k ∧ Hid (∀ j, j < k → nth xs j ≠ x)) (fun i => n - (intOf i).toNat)
  case atStart => exact ⟨0, Nat.zero_le _, rfl, fun j hj => absurd hj (by omega)⟩
  case round =>
    obtain ⟨k, hk, rfl, hP⟩ := hrel
    by_cases hlt : k < n
    · have hkx : k < xs.length := by rw [HN.out]; exact hlt
      obtain ⟨b, off, rfl, hb, hc⟩ := HR.out.at_ k hkx
      by_cases h1 : nth xs k = x
      · have hd : (nth xs k == x) = true := by simp [h1]
        have HF := Lib.hid (hasB_hit hkx h1)
        clear h1
        go_wp2
        go_ret
        exact ⟨ret_b HF.out.symm, rfl⟩
      · have hd : (nth xs k == x) = false := by simp [h1]
        have H1 := Lib.hid h1
        clear h1
        go_wp2
        go_round
        case rel =>
          refine ⟨k + 1, by omega, by go_num, fun j hj => ?_⟩
          by_cases e : j = k
          · subst e; exact H1.out
          · exact hP.out j (by omega)
        case measure => simp [intOf]; omega
    · obtain rfl : k = n := by omega
      have HF := Lib.hid (hasB_miss (xs := xs) (x := x) (by rw [HN.out]; exact hP.out))
      go_wp2
      go_ret
      exact ⟨ret_b HF.out.symm, rfl⟩

def idxB (xs : List Int) (x : Int) (k : Nat) : Bool := decide (nth xs k = x)
theorem firstIdx_lt {p : Nat → Bool} {n : Nat} : firstIdx p n < (n : Int) := by
  unfold firstIdx
  rcases h : (List.range n).find? p with _ | k
  · simp
    omega
  · have := List.mem_range.1 (List.mem_of_find?_eq_some h)
    simp
    omega
theorem hasB_idx (xs : List Int) (x : Int) : hasB xs x = decide (0 ≤ firstIdx (idxB xs x) xs.length) := by
  by_cases h : x ∈ xs
  · rw [hasB_true.2 h]
    obtain ⟨k, hk, e⟩ := mem_nth.1 h
    symm
    refine decide_eq_true ?_
    unfold firstIdx
    rcases hf : (List.range xs.length).find? (idxB xs x) with _ | j
    · have := List.find?_eq_none.1 hf k (List.mem_range.2 hk)
      simp [idxB, e] at this
    · simp
  · rw [hasB_false.2 h]
    symm
    refine decide_eq_false ?_
    rw [firstIdx_miss fun j hj => by unfold idxB; exact decide_eq_false fun e => h (mem_nth.2 ⟨j, hj, e⟩)]
    omega

set_option maxHeartbeats 400000 in
theorem index_c (w : World) (A : Option Addr) (n c : Nat) (xs : List Int) (x : Int) (hr : RdI w A c xs) (hn : xs.length = n) :
    Calls Try.prog 74 #[.slice A n c, .int .i64 x] w fun e w' => e = .returned (.int .i64 (firstIdx (idxB xs x) n)) ∧ w = w' := by
  have hm : n ≤ 9223372036854775807 := by have h1 := hr.le; have h2 := hr.cap; unfold maxLen at h2; omega
  have HR := Lib.hid hr
  have HN := Lib.hid hn
  clear hr hn
  go_enter Try.func74, Try.ntmps74
  go_wp2
  go_loop [8] (fun i => ∃ k : Nat, k ≤ n ∧ i = .int .i64 k ∧ Hid (∀ j, j < k → idxB xs x j = false)) (fun i => n - (intOf i).toNat)
  case atStart => exact ⟨0, Nat.zero_le _, rfl, fun j hj => absurd hj (by omega)⟩
  case round =>
    obtain ⟨k, hk, rfl, hP⟩ := hrel
    by_cases hlt : k < n
    · have hkx : k < xs.length := by rw [HN.out]; exact hlt
      obtain ⟨b, off, rfl, hb, hc⟩ := HR.out.at_ k hkx
      by_cases h1 : nth xs k = x
      · have hd : (x == nth xs k) = true := by simp [h1]
        have HF := Lib.hid (firstIdx_hit (p := idxB xs x) hlt (decide_eq_true h1) hP.out)
        clear h1
        go_wp2
        go_ret
        exact ⟨by rw [HF.out]; rfl, rfl⟩
      · have hd : (x == nth xs k) = false := by simp; exact fun e => h1 e.symm
        have H1 := Lib.hid (show idxB xs x k = false from decide_eq_false h1)
        clear h1
        go_wp2
        go_round
        case rel =>
          refine ⟨k + 1, by omega, by go_num, fun j hj => ?_⟩
          by_cases e : j = k
          · subst e; exact H1.out
          · exact hP.out j (by omega)
        case measure => simp [intOf]; omega
    · obtain rfl : k = n := by omega
      have HF := Lib.hid (firstIdx_miss (p := idxB xs x) hP.out)
      go_wp2
      go_ret
      exact ⟨by rw [HF.out]; rfl, rfl⟩

theorem contains_c (w : World) (A : Option Addr) (n c : Nat) (xs : List Int) (x : Int) (hr : RdI w A c xs) (hn : xs.length = n) :
    Calls Try.prog 66 #[.slice A n c, .int .i64 x] w fun e w' => e = .returned (.bool (hasB xs x)) ∧ w = w' := by
  have HI := Lib.hid (index_c w A n c xs x hr hn)
  have HE := Lib.hid (show decide (0 ≤ firstIdx (idxB xs x) n) = hasB xs x by rw [hasB_idx, hn])
  clear hr hn
  generalize firstIdx (idxB xs x) n = q at *
  by_cases h : 0 ≤ q
  · rw [← HE.out, decide_eq_true h]
    go_enter Try.func66, Try.ntmps66
    go_wp2_with fail
    refine (HI.out).mono ?_
    rintro e w' ⟨rfl, rfl⟩
    go_wp2
    go_ret
    exact ⟨rfl, rfl⟩
  · rw [← HE.out, decide_eq_false h]
    have hd : decide (0 ≤ q) = false := decide_eq_false h
    clear h
    go_enter Try.func66, Try.ntmps66
    go_wp2_with fail
    refine (HI.out).mono ?_
    rintro e w' ⟨rfl, rfl⟩
    go_wp2
    go_ret
    exact ⟨rfl, rfl⟩

/-! ### The program's filtered -/

def fltB (xs ys : List Int) (g : Bool → Bool → Bool) (k : Nat) : Bool := g (hasB xs (k : Int)) (hasB ys (k : Int))
/-- The numbers below k that are kept. -/
def fltTo (xs ys : List Int) (g : Bool → Bool → Bool) (k : Nat) : List Int := ((List.range k).filter (fltB xs ys g)).map fun (j : Nat) => (j : Int)
theorem fltTo_succ (xs ys : List Int) (g : Bool → Bool → Bool) (k : Nat) : fltTo xs ys g (k + 1) = fltTo xs ys g k ++ if fltB xs ys g k = true then [(k : Int)] else [] := by
  unfold fltTo
  rw [List.range_succ, List.filter_append, List.map_append]
  by_cases h : fltB xs ys g k = true <;> simp [List.filter_cons, h]
theorem fltTo_len (xs ys : List Int) (g : Bool → Bool → Bool) (k : Nat) : (fltTo xs ys g k).length ≤ k := by
  unfold fltTo
  rw [List.length_map]
  have := List.length_filter_le (fltB xs ys g) (List.range k)
  simpa using this
/-- What filtered returns. -/
def filtL (xs ys : List Int) (g : Bool → Bool → Bool) : List Int := if setB xs 32 = true ∧ setB ys 32 = true then fltTo xs ys g 32 else []
theorem filtL_len (xs ys : List Int) (g : Bool → Bool → Bool) : (filtL xs ys g).length ≤ 32 := by
  unfold filtL
  split
  · exact fltTo_len _ _ _ _
  · simp

/-- The common numbers. -/
def meetL (xs ys : List Int) : List Int := filtL xs ys (fun p q => p && q)
def minusL (xs ys : List Int) : List Int := filtL xs ys (fun p q => p && !q)
def unionL (xs ys : List Int) : List Int := filtL xs ys (fun p q => p || q)
end Go.Proofs.Ythgbfgdnljgicab
