/-
  slices.Compact over a slice of the call's own; numbers put one by one. Conditions: those of each theorem.
-/
import Derived.Test.YtbbaeopobnpnmaaShelfC
import Derived.Test.YtbbaeopobnpnmaaSort
import Derived.Sort.OwnSortedInts
namespace Go.Proofs.Ytbbaeopobnpnmaa
open Go.RowKit Go.Sort Go.Shelf
set_option linter.unusedVariables false
set_option linter.unusedSimpArgs false

/-- A shorter head of an owned slice is owned. -/
theorem OwnI.shorter {w : World} {lo : Nat} {A : Option Addr} {c : Nat} {xs ys : List Int} (h : OwnI w lo A c (xs ++ ys)) : OwnI w lo A c xs := by
  refine ⟨by simp, ?_⟩
  rcases h.2 with ⟨e, hn⟩ | ⟨g, cap, cur, e, hg, hh, hc, hm, hs, ht⟩
  · injection e with e1 e2 e3
    subst e1 e3
    have : xs.length = 0 := by rw [List.length_append] at hn; omega
    exact .inl ⟨by rw [this], this⟩
  · injection e with e1 e2 e3
    subst e1 e3
    refine .inr ⟨g, c, cur, rfl, hg, hh, by rw [List.length_append] at hc; omega, hm, hs, ?_⟩
    have h1 : cur.toList.take xs.length = (cur.toList.take ((xs ++ ys).length * 1)).take xs.length := by
      rw [List.take_take, Nat.min_eq_left (by rw [List.length_append]; omega)]
    rw [Nat.mul_one, h1, ht, List.map_append]
    exact List.take_left' (by simp)

/-- One number of each run. -/
def cmpt (xs : List Int) : List Int := Go.Lib.compact xs
theorem cmpt_get {xs : List Int} {i : Nat} (h : i < xs.length) : xs.toArray[i]! = nth xs i := by
  rw [nth_eq h, getElem!_pos _ i (by simpa using h)]
  simp
theorem cmpt_len (xs : List Int) : (cmpt xs).length ≤ xs.length := by
  unfold cmpt Go.Lib.compact Go.Lib.compactUpTo
  rw [List.length_map]
  have := List.length_filter_le (Go.Lib.keeps xs.toArray) (List.range xs.length)
  rw [List.length_range] at this
  exact this
theorem cmpt_mem {xs : List Int} {z : Int} : z ∈ cmpt xs ↔ z ∈ xs := by
  unfold cmpt Go.Lib.compact Go.Lib.compactUpTo
  rw [List.mem_map]
  constructor
  · rintro ⟨i, hi, e⟩
    have hl := List.mem_range.1 (List.mem_filter.1 hi).1
    rw [cmpt_get hl] at e
    exact mem_nth.2 ⟨i, hl, e⟩
  · intro hz
    obtain ⟨i, hi, e⟩ := mem_nth.1 hz
    have : ∀ n i, i ≤ n → i < xs.length → nth xs i = z → ∃ a, a ∈ (List.range xs.length).filter (Go.Lib.keeps xs.toArray) ∧ xs.toArray[a]! = z := by
      intro n
      induction n with
      | zero =>
        intro i h0 hi e
        obtain rfl : i = 0 := by omega
        exact ⟨0, List.mem_filter.2 ⟨List.mem_range.2 hi, by simp [Go.Lib.keeps]⟩, by rw [cmpt_get hi]; exact e⟩
      | succ n ih =>
        intro i h0 hi e
        rcases Nat.eq_zero_or_pos i with h1 | h1
        · exact ih i (by omega) hi e
        · by_cases h2 : nth xs i = nth xs (i - 1)
          · exact ih (i - 1) (by omega) (by omega) (by rw [← h2]; exact e)
          · refine ⟨i, List.mem_filter.2 ⟨List.mem_range.2 hi, ?_⟩, by rw [cmpt_get hi]; exact e⟩
            unfold Go.Lib.keeps
            refine decide_eq_true (Or.inr ?_)
            rw [cmpt_get hi, cmpt_get (by omega)]
            exact h2
    exact this i i (Nat.le_refl _) hi e
theorem cmpt_rise {xs : List Int} (h : xs.Pairwise (· ≤ ·)) : (cmpt xs).Pairwise (· < ·) := by
  unfold cmpt Go.Lib.compact Go.Lib.compactUpTo
  rw [List.pairwise_map]
  have hle : ∀ i j, i ≤ j → j < xs.length → nth xs i ≤ nth xs j := fun i j hij hj => by
    rcases Nat.lt_or_ge i j with h1 | h1
    · rw [nth_eq hj, nth_eq (Nat.lt_trans h1 hj)]
      exact List.pairwise_iff_getElem.1 h i j (Nat.lt_trans h1 hj) hj h1
    · obtain rfl : i = j := by omega
      omega
  have h1 : ((List.range xs.length).filter (Go.Lib.keeps xs.toArray)).Pairwise (· < ·) := List.Pairwise.filter _ List.pairwise_lt_range
  refine List.Pairwise.imp_of_mem ?_ h1
  intro i j hi hj hij
  have hjl := List.mem_range.1 (List.mem_filter.1 hj).1
  have hk := (List.mem_filter.1 hj).2
  unfold Go.Lib.keeps at hk
  rw [decide_eq_true_eq, cmpt_get hjl, cmpt_get (show j - 1 < xs.length by omega)] at hk
  rw [cmpt_get hjl, cmpt_get (show i < xs.length by omega)]
  have h2 := hle i (j - 1) (by omega) (by omega)
  have h3 := hle (j - 1) j (by omega) hjl
  rcases hk with hk | hk <;> omega

theorem compact_c (w : World) {lo : Nat} {A : Option Addr} {c n : Nat} {xs : List Int} (h : OwnI w lo A c xs) (hn : xs.length = n) (hz : n ≤ 1048576) :
    Calls Try.prog 46 #[.slice A n c] w fun e w' => e = .returned (.slice A (cmpt xs).length c) ∧ OwnI w' lo A c (cmpt xs) ∧ w.grownBy w' (blk A) := by
  subst hn
  rcases h.2 with ⟨e, hl⟩ | ⟨g, cap, cur, e, hg, hh, hc, hm, hs, ht⟩
  · injection e with e1 e2 e3
    subst e1 e3
    have hx : xs = [] := List.eq_nil_of_length_eq_zero hl
    subst hx
    refine (show Calls Try.prog 46 #[.slice none 0 0] w _ from AnyG.slices_Compact_int_empty compactI none 0 w).mono fun e w' ⟨he, hw⟩ => ?_
    subst hw
    exact ⟨he, OwnI.nil_ _ lo, ⟨rfl, rfl, rfl, Nat.le_refl _, fun _ _ _ => rfl⟩⟩
  · injection e with e1 e2 e3
    subst e1 e3
    have hH := holds_of_blockI (ss := xs) hh (by simpa using ht)
    refine (show Calls Try.prog 46 #[.slice (some ⟨g, 0, none⟩) xs.length c] w _ from AnyG.slices_Compact_int compactI g 0 c xs w hH (by omega) hc).mono fun e w' ⟨he, n, hw⟩ => ?_
    have hl : (cmpt xs ++ List.replicate (xs.length - (cmpt xs).length) (0 : Int)).length = xs.length := by
      rw [List.length_append, List.length_replicate]
      have := cmpt_len xs
      omega
    have hw2 : w' = grow (putRow (Value.int .i64) (Sort.ahead w n) g 0 (cmpt xs ++ List.replicate (xs.length - (cmpt xs).length) (0 : Int)).toArray) #[] := by rw [hw]; simp [grow, cmpt]; rfl
    refine ⟨he, OwnI.shorter (ys := List.replicate (xs.length - (cmpt xs).length) (0 : Int)) ?_, by rw [hw2]; exact grownBy_sortedI _⟩
    unfold OwnI
    rw [hw2, hl]
    exact ownsRow_sortedI hl hg hh hc hm hs

/-- Numbers put one by one. -/
def putsL (l : List Int) : List Int := l.foldl (fun acc v => putL acc v) []
theorem putsL_snoc (l : List Int) (v : Int) : putsL (l ++ [v]) = putL (putsL l) v := by simp [putsL]
theorem foldl_puts {l acc : List Int} : (acc.Pairwise (· < ·) → (l.foldl (fun acc v => putL acc v) acc).Pairwise (· < ·)) ∧ ∀ z, z ∈ l.foldl (fun acc v => putL acc v) acc ↔ z ∈ l ∨ z ∈ acc := by
  induction l generalizing acc with
  | nil => simp
  | cons x l ih =>
    have h := ih (acc := putL acc x)
    refine ⟨fun ha => h.1 (putL_rise ha), fun z => ?_⟩
    rw [List.foldl_cons, h.2 z, putL_mem, List.mem_cons]
    constructor
    · rintro (h | h | h)
      · exact .inl (.inr h)
      · exact .inl (.inl h)
      · exact .inr h
    · rintro ((h | h) | h)
      · exact .inr (.inl h)
      · exact .inl h
      · exact .inr (.inr h)
theorem putsL_mem {l : List Int} {z : Int} : z ∈ putsL l ↔ z ∈ l := by
  have := (foldl_puts (l := l) (acc := [])).2 z
  simpa [putsL] using this
theorem putsL_rise (l : List Int) : (putsL l).Pairwise (· < ·) := (foldl_puts (l := l) (acc := [])).1 List.Pairwise.nil
theorem putsL_len (l : List Int) : (putsL l).length ≤ l.length := by
  have : ∀ (l acc : List Int), (l.foldl (fun acc v => putL acc v) acc).length ≤ l.length + acc.length := by
    intro l
    induction l with
    | nil => intro acc; simp
    | cons x l ih =>
      intro acc
      have h1 := ih (putL acc x)
      have h2 := putL_length acc x
      rw [List.foldl_cons, List.length_cons]
      omega
  simpa [putsL] using this l []
theorem cmpt_puts (l : List Int) : cmpt (sortL l) = putsL l :=
  rise_ext (cmpt_rise (sortL_le l)) (putsL_rise l) fun z => by rw [cmpt_mem, sortL_mem, putsL_mem]
end Go.Proofs.Ytbbaeopobnpnmaa
