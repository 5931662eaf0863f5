/-
  How many blocks hold two points: as the program counts them and as the reference does. Plain lists, no program in sight. Conditions: those of each theorem.
-/
import Derived.Test.YtmmkmkbpgcbehaaGreatClass
import Derived.Test.YtmmkmkbpgcbehaaGreatLine
namespace Go.Proofs.YtmmkmkbpgcbehaaGreat
set_option linter.unusedVariables false
set_option linter.unusedSimpArgs false

open Classical in
noncomputable def ind (p : Prop) : Int := if p then 1 else 0
theorem ind_t {p : Prop} (h : p) : ind p = 1 := by unfold ind; rw [if_pos h]
theorem ind_f {p : Prop} (h : ¬ p) : ind p = 0 := by unfold ind; rw [if_neg h]
theorem ind_c {p q : Prop} (h : p ↔ q) : ind p = ind q := by rw [propext h]
theorem ind_bd (p : Prop) : 0 ≤ ind p ∧ ind p ≤ 1 := by
  by_cases h : p
  · rw [ind_t h]; omega
  · rw [ind_f h]; omega

def sN (s : List Int) (k : Nat) : Nat := (nth s k).toNat
def pstep (f : Nat → Nat → Int) (a b : Nat) : Nat → Nat → Int := upd f a b (f a b + 1)
def pJ (s : List Int) (i : Nat) (f : Nat → Nat → Int) : Nat → Nat → Nat → Int
  | 0 => f
  | j + 1 => pstep (pJ s i f j) (sN s i) (sN s (i + 1 + j))
def pI (s : List Int) (f : Nat → Nat → Int) : Nat → Nat → Nat → Int
  | 0 => f
  | i + 1 => pJ s i (pI s f i) (s.length - (i + 1))
def pS (xss : List (List Int)) : Nat → Nat → Nat → Int
  | 0 => fun _ _ => 0
  | k + 1 => pI (row xss k) (pS xss k) (row xss k).length

/-- Different numbers, none below 0. -/
def Inj (s : List Int) : Prop := ∀ i j, i < s.length → j < s.length → sN s i = sN s j → i = j
theorem inj_of {s : List Int} {p : Int} (h : setB s p = true) : Inj s := by
  intro i j hi hj e
  have h1 := of_decide_eq_true h
  have bi := (h1.1 i hi).1
  have bj := (h1.1 j hj).1
  unfold sN at e
  rcases Nat.lt_trichotomy i j with hlt | hlt | hlt
  · have := h1.1.lt j hj hlt; omega
  · exact hlt
  · have := h1.1.lt i hi hlt; omega

theorem pJ_val {s : List Int} (hs : Inj s) {i : Nat} (f : Nat → Nat → Int) (j : Nat) (hj : i + 1 + j ≤ s.length) (x y : Nat) :
    pJ s i f j x y = f x y + ind (x = sN s i ∧ ∃ j', j' < j ∧ y = sN s (i + 1 + j')) := by
  induction j generalizing x y with
  | zero => rw [ind_f (by rintro ⟨_, j', h, _⟩; omega)]; simp [pJ]
  | succ j ih =>
    have hj' : i + 1 + j ≤ s.length := by omega
    simp only [pJ, pstep, upd]
    by_cases e : x = sN s i ∧ y = sN s (i + 1 + j)
    · obtain ⟨rfl, rfl⟩ := e
      rw [if_pos ⟨rfl, rfl⟩, ih hj', ind_f, ind_t ⟨rfl, j, by omega, rfl⟩]
      · omega
      · rintro ⟨_, j', h, e⟩
        have := hs _ _ (by omega) (by omega) e
        omega
    · rw [if_neg e, ih hj']
      congr 1
      refine ind_c ⟨fun ⟨h1, j', h, h2⟩ => ⟨h1, j', by omega, h2⟩, fun ⟨h1, j', h, h2⟩ => ⟨h1, j', ?_, h2⟩⟩
      by_cases e' : j' = j
      · subst e'; exact absurd ⟨h1, h2⟩ e
      · omega
theorem pI_val {s : List Int} (hs : Inj s) (f : Nat → Nat → Int) (i : Nat) (hi : i ≤ s.length) (x y : Nat) :
    pI s f i x y = f x y + ind (∃ i', i' < i ∧ x = sN s i' ∧ ∃ j', i' < j' ∧ j' < s.length ∧ y = sN s j') := by
  induction i generalizing x y with
  | zero => rw [ind_f (by rintro ⟨i', h, _⟩; omega)]; simp [pI]
  | succ i ih =>
    have hi' : i ≤ s.length := by omega
    simp only [pI]
    rw [pJ_val hs _ _ (by omega), ih hi']
    by_cases e : x = sN s i ∧ ∃ j', j' < s.length - (i + 1) ∧ y = sN s (i + 1 + j')
    · obtain ⟨e1, j', h1, h2⟩ := e
      have t1 : ind (x = sN s i ∧ ∃ j', j' < s.length - (i + 1) ∧ y = sN s (i + 1 + j')) = 1 := ind_t ⟨e1, j', h1, h2⟩
      have t2 : ind (∃ i', i' < i ∧ x = sN s i' ∧ ∃ j', i' < j' ∧ j' < s.length ∧ y = sN s j') = 0 := ind_f (by
        rintro ⟨i', h3, h4, _⟩
        have := hs i' i (by omega) (by omega) (h4.symm.trans e1)
        omega)
      have t3 : ind (∃ i', i' < i + 1 ∧ x = sN s i' ∧ ∃ j', i' < j' ∧ j' < s.length ∧ y = sN s j') = 1 := ind_t ⟨i, by omega, e1, i + 1 + j', by omega, by omega, h2⟩
      rw [t1, t2, t3]
      omega
    · have t1 : ind (x = sN s i ∧ ∃ j', j' < s.length - (i + 1) ∧ y = sN s (i + 1 + j')) = 0 := ind_f e
      rw [t1, Int.add_zero]
      congr 1
      refine ind_c ⟨fun ⟨i', h, r⟩ => ⟨i', by omega, r⟩, fun ⟨i', h, h1, j', h2, h3, h4⟩ => ⟨i', ?_, h1, j', h2, h3, h4⟩⟩
      by_cases e' : i' = i
      · subst e'
        exact absurd ⟨h1, j' - (i' + 1), by omega, by rw [h4]; congr 1; omega⟩ e
      · omega

def RowsOk (P : Nat) (xss : List (List Int)) : Prop := ∀ k, k < xss.length → setB (row xss k) (P : Int) = true
theorem DsgOk.rows {P : Nat} {xss : List (List Int)} (h : DsgOk (P : Int) xss) : RowsOk P xss := fun k hk => blockB_set (h.2.2 k hk).1

theorem pS_bd {P : Nat} {xss : List (List Int)} (h : RowsOk P xss) (k : Nat) (hk : k ≤ xss.length) (x y : Nat) : 0 ≤ pS xss k x y ∧ pS xss k x y ≤ (k : Int) := by
  induction k with
  | zero => simp [pS]
  | succ k ih =>
    have h1 := ih (by omega)
    simp only [pS]
    rw [pI_val (inj_of (h k (by omega))) _ _ (Nat.le_refl _)]
    have := ind_bd (∃ i', i' < (row xss k).length ∧ x = sN (row xss k) i' ∧ ∃ j', i' < j' ∧ j' < (row xss k).length ∧ y = sN (row xss k) j')
    omega
theorem pJ_bd {P : Nat} {xss : List (List Int)} (h : RowsOk P xss) {k : Nat} (hk : k < xss.length) {i j : Nat} (hi : i + 1 + j ≤ (row xss k).length) (x y : Nat) :
    0 ≤ pJ (row xss k) i (pI (row xss k) (pS xss k) i) j x y ∧ pJ (row xss k) i (pI (row xss k) (pS xss k) i) j x y ≤ (k : Int) + 2 := by
  rw [pJ_val (inj_of (h k hk)) _ _ hi, pI_val (inj_of (h k hk)) _ _ (by omega)]
  have h1 := pS_bd h k (by omega) x y
  have h2 := ind_bd (∃ i', i' < i ∧ x = sN (row xss k) i' ∧ ∃ j', i' < j' ∧ j' < (row xss k).length ∧ y = sN (row xss k) j')
  have h3 := ind_bd (x = sN (row xss k) i ∧ ∃ j', j' < j ∧ y = sN (row xss k) (i + 1 + j'))
  omega

/-- How many of the first k blocks hold a and b. -/
def cntP (xss : List (List Int)) (a b : Int) (k : Nat) : Nat := ((List.range k).filter (lineP xss a b)).length
theorem cntP_succ (xss : List (List Int)) (a b : Int) (k : Nat) : cntP xss a b (k + 1) = cntP xss a b k + if lineP xss a b k = true then 1 else 0 := by
  unfold cntP
  rw [List.range_succ, List.filter_append, List.length_append]
  by_cases e : lineP xss a b k = true <;> simp [List.filter_cons, e]
theorem cntP_le (xss : List (List Int)) (a b : Int) (k : Nat) : cntP xss a b k ≤ k := by
  unfold cntP
  have := List.length_filter_le (lineP xss a b) (List.range k)
  rwa [List.length_range] at this

theorem mem_sN {s : List Int} {p : Int} (h : setB s p = true) {x : Nat} : (x : Int) ∈ s ↔ ∃ i, i < s.length ∧ x = sN s i := by
  have h1 := of_decide_eq_true h
  constructor
  · intro hx
    obtain ⟨i, hi, e⟩ := mem_nth.1 hx
    exact ⟨i, hi, by unfold sN; omega⟩
  · rintro ⟨i, hi, e⟩
    refine mem_nth.2 ⟨i, hi, ?_⟩
    have := (h1.1 i hi).1
    unfold sN at e
    omega
theorem pS_cnt {P : Nat} {xss : List (List Int)} (h : RowsOk P xss) (k : Nat) (hk : k ≤ xss.length) {x y : Nat} (hxy : x < y) : pS xss k x y = (cntP xss (x : Int) (y : Int) k : Nat) := by
  induction k with
  | zero => simp [pS, cntP]
  | succ k ih =>
    have hr := h k (by omega)
    have h1 := of_decide_eq_true hr
    simp only [pS]
    rw [pI_val (inj_of hr) _ _ (Nat.le_refl _), ih (by omega), cntP_succ]
    by_cases e : lineP xss (x : Int) (y : Int) k = true
    · rw [if_pos e]
      unfold lineP at e
      rw [Bool.and_eq_true, hasB_true, hasB_true, mem_sN hr, mem_sN hr] at e
      obtain ⟨⟨i, hi, e1⟩, j, hj, e2⟩ := e
      have hij : i < j := by
        rcases Nat.lt_or_ge i j with hl | hl
        · exact hl
        · exfalso
          unfold sN at e1 e2
          by_cases e' : i = j
          · subst e'; omega
          · have := h1.1.lt i hi (show j < i by omega)
            have := (h1.1 i hi).1
            have := (h1.1 j hj).1
            omega
      rw [ind_t ⟨i, hi, e1, j, hij, hj, e2⟩, Int.natCast_add]
      rfl
    · rw [if_neg e, ind_f, Int.add_zero, Nat.add_zero]
      rintro ⟨i, hi, e1, j, _, hj, e2⟩
      apply e
      unfold lineP
      rw [Bool.and_eq_true, hasB_true, hasB_true, mem_sN hr, mem_sN hr]
      exact ⟨⟨i, hi, e1⟩, j, hj, e2⟩

/-- The numbers of f above the diagonal, the first k rows. -/
def pairsTo (P : Nat) (f : Nat → Nat → Int) (k : Nat) : List Int := (List.range k).flatMap fun x => (rowTo f x P).drop (x + 1)
theorem pairsTo_succ (P : Nat) (f : Nat → Nat → Int) (k : Nat) : pairsTo P f (k + 1) = pairsTo P f k ++ (rowTo f k P).drop (k + 1) := by
  unfold pairsTo
  rw [List.range_succ, List.flatMap_append]
  simp
theorem pairsTo_len (P : Nat) (f : Nat → Nat → Int) (k : Nat) : (pairsTo P f k).length ≤ k * P := by
  induction k with
  | zero => simp [pairsTo]
  | succ k ih =>
    rw [pairsTo_succ, List.length_append, List.length_drop, length_rowTo, Nat.succ_mul]
    omega
theorem rowTo_drop_congr {P : Nat} {f g : Nat → Nat → Int} {x k : Nat} (h : ∀ y, k ≤ y → y < P → f x y = g x y) : (rowTo f x P).drop k = (rowTo g x P).drop k := by
  apply List.ext_getElem
  · simp [length_rowTo]
  · intro i h1 h2
    rw [List.getElem_drop, List.getElem_drop]
    rw [List.length_drop, length_rowTo] at h1
    simp only [rowTo, List.getElem_map, List.getElem_range]
    exact h _ (by omega) (by omega)
theorem pairsTo_congr {P : Nat} {f g : Nat → Nat → Int} (h : ∀ x y, x < y → y < P → f x y = g x y) (k : Nat) : pairsTo P f k = pairsTo P g k := by
  unfold pairsTo
  congr 1
  funext x
  exact rowTo_drop_congr fun y h1 h2 => h x y (by omega) h2
def cntF (xss : List (List Int)) (x y : Nat) : Int := (cntP xss (x : Int) (y : Int) xss.length : Nat)
/-- The numbers of blocks with each two points. -/
def pairL (P : Nat) (xss : List (List Int)) : List Int := pairsTo P (cntF xss) P
theorem pairL_eq {P : Nat} {xss : List (List Int)} (h : RowsOk P xss) : pairsTo P (pS xss xss.length) P = pairL P xss :=
  pairsTo_congr (fun x y hxy _ => pS_cnt h xss.length (Nat.le_refl _) hxy) P
theorem pairL_len (P : Nat) (xss : List (List Int)) : (pairL P xss).length ≤ P * P := pairsTo_len P _ P

/-! ### Replications -/

def bump (t : List Int) (i : Nat) : List Int := t.set i (nth t i + 1)
def rpB (s t : List Int) : Nat → List Int
  | 0 => t
  | j + 1 => bump (rpB s t j) (sN s j)
def rpS (P : Nat) (xss : List (List Int)) : Nat → List Int
  | 0 => List.replicate P 0
  | k + 1 => rpB (row xss k) (rpS P xss k) (row xss k).length
theorem bump_len (t : List Int) (i : Nat) : (bump t i).length = t.length := by simp [bump]
theorem rpB_len (s t : List Int) (j : Nat) : (rpB s t j).length = t.length := by
  induction j with
  | zero => rfl
  | succ j ih => simp only [rpB]; rw [bump_len, ih]
theorem rpS_len (P : Nat) (xss : List (List Int)) (k : Nat) : (rpS P xss k).length = P := by
  induction k with
  | zero => simp [rpS]
  | succ k ih => simp only [rpS]; rw [rpB_len, ih]
def UpT (t : List Int) (C : Int) : Prop := ∀ i, 0 ≤ nth t i ∧ nth t i ≤ C
theorem UpT.bump {t : List Int} {C : Int} (h : UpT t C) (i : Nat) : UpT (bump t i) (C + 1) := fun j => by
  have h1 := h i
  have h2 := h j
  unfold Go.Proofs.YtmmkmkbpgcbehaaGreat.bump nth
  rw [List.getElem?_set]
  unfold nth at h1 h2
  split
  · split
    · simp only [Option.getD_some]; omega
    · simp only [Option.getD_none]; omega
  · omega
theorem UpT.rpB {s t : List Int} {C : Int} (h : UpT t C) (j : Nat) : UpT (rpB s t j) (C + j) := by
  induction j with
  | zero => simpa [Go.Proofs.YtmmkmkbpgcbehaaGreat.rpB] using h
  | succ j ih =>
    have := ih.bump (sN s j)
    simp only [Go.Proofs.YtmmkmkbpgcbehaaGreat.rpB]
    rw [show C + ((j + 1 : Nat) : Int) = C + (j : Int) + 1 by omega]
    exact this
theorem UpT.rpS {P : Nat} {xss : List (List Int)} (hs : ∀ k, k < xss.length → (row xss k).length ≤ 32) (k : Nat) (hk : k ≤ xss.length) : UpT (rpS P xss k) (32 * k) := by
  induction k with
  | zero =>
    intro i
    simp only [Go.Proofs.YtmmkmkbpgcbehaaGreat.rpS, nth, List.getElem?_replicate]
    split <;> simp
  | succ k ih =>
    have h1 := (ih (by omega)).rpB (s := row xss k) (row xss k).length
    have h2 := hs k (by omega)
    simp only [Go.Proofs.YtmmkmkbpgcbehaaGreat.rpS]
    intro i
    have := h1 i
    omega
theorem setB_len {xs : List Int} {P : Nat} (h : setB xs (P : Int) = true) : xs.length ≤ P := by
  have h1 := setB_iff.1 h
  have h2 := nodup_count (P := P) (L := xs) (by
    refine List.Pairwise.imp ?_ h1.1
    intro a b h e; omega) h1.2.1
  have h3 := List.length_filter_le (fun i => hasB xs ((i : Nat) : Int)) (List.range P)
  rw [List.length_range] at h3
  omega
end Go.Proofs.YtmmkmkbpgcbehaaGreat
