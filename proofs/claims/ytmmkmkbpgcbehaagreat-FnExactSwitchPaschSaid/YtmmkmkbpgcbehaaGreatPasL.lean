/-
  Lists of lists that rise strictly; the search in them; neighbours that are equal struck out; all quadrilaterals of a triple system. No program in sight. Conditions: those of each theorem.
-/
import Derived.Test.YtmmkmkbpgcbehaaGreatPasP
namespace Go.Proofs.YtmmkmkbpgcbehaaGreat
set_option linter.unusedVariables false
set_option linter.unusedSimpArgs false

def StrictLL (xss : List (List Int)) : Prop := xss.Pairwise fun x y => cmpL x y < 0
theorem StrictLL.nodup {xss : List (List Int)} (h : StrictLL xss) : xss.Nodup := by
  rw [List.nodup_iff_pairwise_ne]
  refine List.Pairwise.imp ?_ h
  intro a b h e
  rw [e, cmpL_self] at h
  omega
theorem StrictLL.le {xss : List (List Int)} (h : StrictLL xss) : xss.Pairwise fun x y => cmpL x y ≤ 0 := List.Pairwise.imp (fun h => by omega) h
theorem strict_ext {xss yss : List (List Int)} (hx : StrictLL xss) (hy : StrictLL yss) (h : ∀ q, q ∈ xss ↔ q ∈ yss) : xss = yss :=
  List.Perm.eq_of_pairwise (le := fun x y => cmpL x y ≤ 0) (fun _ _ _ _ h1 h2 => cmpL_anti h1 h2) hx.le hy.le ((List.perm_ext_iff_of_nodup hx.nodup hy.nodup).2 h)
theorem StrictLL.lt {xss : List (List Int)} (h : StrictLL xss) {i j : Nat} (hij : i < j) (hj : j < xss.length) : cmpL (row xss i) (row xss j) < 0 := by
  have := List.pairwise_iff_getElem.1 h i j (by omega) hj hij
  rwa [row_eq (by omega), row_eq hj]
theorem strict_of {xss : List (List Int)} (h : ∀ i j, i < j → j < xss.length → cmpL (row xss i) (row xss j) < 0) : StrictLL xss :=
  List.pairwise_iff_getElem.2 fun i j hi hj hij => by
    have := h i j hij hj
    rwa [row_eq hi, row_eq hj] at this
theorem mem_row {xss : List (List Int)} {q : List Int} : q ∈ xss ↔ ∃ k, k < xss.length ∧ row xss k = q := by
  constructor
  · intro h
    obtain ⟨k, hk, e⟩ := List.mem_iff_getElem.1 h
    exact ⟨k, hk, by rw [row_eq hk, e]⟩
  · rintro ⟨k, hk, e⟩
    rw [← e, row_eq hk]
    exact List.getElem_mem hk

/-- How many rows come before p. -/
def loI (xss : List (List Int)) (p : List Int) : Nat := (xss.filter fun x => decide (cmpL x p < 0)).length
def fdB (xss : List (List Int)) (p : List Int) : Bool := decide (p ∈ xss)
theorem loI_eq {xss : List (List Int)} {p : List Int} {k : Nat} (hk : k ≤ xss.length) (h1 : ∀ i, i < k → cmpL (row xss i) p < 0) (h2 : ∀ i, k ≤ i → i < xss.length → ¬ cmpL (row xss i) p < 0) : loI xss p = k := by
  unfold loI
  have e : xss = xss.take k ++ xss.drop k := (List.take_append_drop k xss).symm
  rw [e, List.filter_append, List.filter_eq_self.2, List.filter_eq_nil_iff.2, List.append_nil, List.length_take]
  · omega
  · intro x hx
    obtain ⟨j, hj, e⟩ := List.mem_iff_getElem.1 hx
    rw [List.length_drop] at hj
    rw [List.getElem_drop] at e
    have := h2 (k + j) (by omega) (by omega)
    rw [row_eq (by omega), e] at this
    simpa using this
  · intro x hx
    obtain ⟨j, hj, e⟩ := List.mem_iff_getElem.1 hx
    rw [List.length_take] at hj
    rw [List.getElem_take] at e
    have := h1 j (by omega)
    rw [row_eq (by omega), e] at this
    simpa using this
theorem loI_at {xss : List (List Int)} (h : StrictLL xss) {k : Nat} (hk : k < xss.length) : loI xss (row xss k) = k :=
  loI_eq (by omega) (fun i hi => h.lt hi hk) fun i hi hl => by
    rcases Nat.eq_or_lt_of_le hi with e | e
    · rw [e, cmpL_self]; omega
    · have := h.lt e hl
      have := cmpL_neg (row xss i) (row xss k)
      omega
/-- .. and behind them: the list with p put to its place. -/
def insQ (xss : List (List Int)) (p : List Int) : List (List Int) := xss.take (loI xss p) ++ [p] ++ xss.drop (loI xss p)
theorem loI_le (xss : List (List Int)) (p : List Int) : loI xss p ≤ xss.length := List.length_filter_le _ _
theorem insQ_mem {xss : List (List Int)} {p q : List Int} : q ∈ insQ xss p ↔ q ∈ xss ∨ q = p := by
  unfold insQ
  constructor
  · intro h
    simp only [List.mem_append, List.mem_singleton] at h
    rcases h with (h | h) | h
    · exact .inl (List.mem_of_mem_take h)
    · exact .inr h
    · exact .inl (List.mem_of_mem_drop h)
  · intro h
    simp only [List.mem_append, List.mem_singleton]
    rcases h with h | h
    · rw [← List.take_append_drop (loI xss p) xss, List.mem_append] at h
      rcases h with h | h
      · exact .inl (.inl h)
      · exact .inr h
    · exact .inl (.inr h)
theorem loI_sides {xss : List (List Int)} {p : List Int} (h : StrictLL xss) (hp : p ∉ xss) : (∀ i, i < loI xss p → cmpL (row xss i) p < 0) ∧ ∀ i, loI xss p ≤ i → i < xss.length → 0 < cmpL (row xss i) p := by
  have key : ∃ k, k ≤ xss.length ∧ (∀ i, i < k → cmpL (row xss i) p < 0) ∧ ∀ i, k ≤ i → i < xss.length → ¬ cmpL (row xss i) p < 0 := by
    have step : ∀ m, m ≤ xss.length → (∀ i, i < m → cmpL (row xss i) p < 0) ∨ ∃ k, k ≤ xss.length ∧ (∀ i, i < k → cmpL (row xss i) p < 0) ∧ ∀ i, k ≤ i → i < xss.length → ¬ cmpL (row xss i) p < 0 := by
      intro m
      induction m with
      | zero => exact fun _ => .inl fun i hi => absurd hi (by omega)
      | succ m ih =>
        intro hm
        rcases ih (by omega) with h1 | h1
        · by_cases hc : cmpL (row xss m) p < 0
          · refine .inl fun i hi => ?_
            by_cases e : i = m
            · subst e; exact hc
            · exact h1 i (by omega)
          · refine .inr ⟨m, by omega, h1, fun i hi hl hlt => hc ?_⟩
            rcases Nat.eq_or_lt_of_le hi with e | e
            · rw [e]; exact hlt
            · have h2 := h.lt e hl
              have h3 := cmpL_trans (a := row xss m) (b := row xss i) (c := p) (by omega) (by omega)
              have h4 : cmpL (row xss m) p ≠ 0 := fun h5 => hp (by rw [← cmpL_zero h5]; exact mem_row.2 ⟨m, by omega, rfl⟩)
              omega
        · exact .inr h1
    rcases step xss.length (Nat.le_refl _) with h1 | h1
    · exact ⟨xss.length, Nat.le_refl _, h1, fun i hi hl => absurd hl (by omega)⟩
    · exact h1
  obtain ⟨k, hk, h1, h2⟩ := key
  rw [loI_eq hk h1 h2]
  refine ⟨h1, fun i hi hl => ?_⟩
  have h3 := h2 i hi hl
  have h4 : cmpL (row xss i) p ≠ 0 := fun h5 => hp (by rw [← cmpL_zero h5]; exact mem_row.2 ⟨i, hl, rfl⟩)
  omega
theorem insQ_strict {xss : List (List Int)} {p : List Int} (h : StrictLL xss) (hp : p ∉ xss) : StrictLL (insQ xss p) := by
  obtain ⟨h1, h2⟩ := loI_sides h hp
  have hl := loI_le xss p
  unfold insQ StrictLL
  rw [List.pairwise_append, List.pairwise_append]
  have ht : ∀ x, x ∈ xss.take (loI xss p) → cmpL x p < 0 := fun x hx => by
    obtain ⟨j, hj, e⟩ := List.mem_iff_getElem.1 hx
    rw [List.length_take] at hj
    rw [List.getElem_take] at e
    have := h1 j (by omega)
    rwa [row_eq (by omega), e] at this
  have hd : ∀ y, y ∈ xss.drop (loI xss p) → cmpL p y < 0 := fun y hy => by
    obtain ⟨j, hj, e⟩ := List.mem_iff_getElem.1 hy
    rw [List.length_drop] at hj
    rw [List.getElem_drop] at e
    have h3 := h2 (loI xss p + j) (by omega) (by omega)
    rw [row_eq (by omega), e] at h3
    have := cmpL_neg p y
    omega
  refine ⟨⟨List.Pairwise.sublist (List.take_sublist _ _) h, List.pairwise_singleton _ _, fun x hx y hy => ?_⟩, List.Pairwise.sublist (List.drop_sublist _ _) h, fun x hx y hy => ?_⟩
  · rw [List.mem_singleton] at hy; rw [hy]; exact ht x hx
  · have hy2 := hd y hy
    rw [List.mem_append, List.mem_singleton] at hx
    rcases hx with hx | rfl
    · have h3 := ht x hx
      have h4 := cmpL_trans (a := x) (b := p) (c := y) (by omega) (by omega)
      have h5 : cmpL x y ≠ 0 := fun h6 => by
        have e := cmpL_zero h6
        have h7 := cmpL_neg x p
        rw [e] at h3 h7
        have h8 := cmpL_neg p y
        omega
      omega
    · exact hy2
theorem insQ_len (xss : List (List Int)) (p : List Int) : (insQ xss p).length = xss.length + 1 := by
  unfold insQ
  have := loI_le xss p
  simp only [List.length_append, List.length_take, List.length_drop, List.length_singleton]
  omega

/-- Neighbours that are equal, struck out. -/
def kpB (xss : List (List Int)) (j : Nat) : Bool := decide (j = 0 ∨ row xss j ≠ row xss (j - 1))
def kept (xss : List (List Int)) (k : Nat) : List Nat := (List.range k).filter (kpB xss)
def compLL (xss : List (List Int)) : List (List Int) := (kept xss xss.length).map (row xss)
theorem kept_yes {xss : List (List Int)} {k : Nat} (h : kpB xss k = true) : kept xss (k + 1) = kept xss k ++ [k] := by simp [kept, List.range_succ, h]
theorem kept_no {xss : List (List Int)} {k : Nat} (h : kpB xss k = false) : kept xss (k + 1) = kept xss k := by simp [kept, List.range_succ, h]
theorem kept_len (xss : List (List Int)) (k : Nat) : (kept xss k).length ≤ k := by
  unfold kept
  exact Nat.le_trans (List.length_filter_le _ _) (by simp)
theorem kept_rise (xss : List (List Int)) (k : Nat) : (kept xss k).Pairwise (· < ·) := List.Pairwise.filter _ List.pairwise_lt_range
theorem kept_lt {xss : List (List Int)} {k j : Nat} (h : j ∈ kept xss k) : j < k := List.mem_range.1 (List.mem_filter.1 h).1
theorem kept_all {xss : List (List Int)} {k : Nat} (h : ∀ j, j < k → kpB xss j = true) : kept xss k = List.range k := by
  unfold kept
  exact List.filter_eq_self.2 fun j hj => h j (List.mem_range.1 hj)
theorem compLL_len (xss : List (List Int)) : (compLL xss).length ≤ xss.length := by
  unfold compLL
  rw [List.length_map]
  exact kept_len _ _
theorem compLL_mem {xss : List (List Int)} {q : List Int} : q ∈ compLL xss ↔ q ∈ xss := by
  unfold compLL
  rw [List.mem_map, mem_row]
  constructor
  · rintro ⟨j, hj, e⟩
    exact ⟨j, kept_lt hj, e⟩
  · rintro ⟨k, hk, e⟩
    have : ∀ m, m ≤ k → row xss m = row xss k → ∃ j, j ∈ kept xss xss.length ∧ row xss j = row xss k := by
      intro m
      induction m with
      | zero => exact fun _ e2 => ⟨0, List.mem_filter.2 ⟨List.mem_range.2 (by omega), by simp [kpB]⟩, e2⟩
      | succ m ih =>
        intro hm e2
        by_cases h : row xss (m + 1) = row xss m
        · exact ih (by omega) (h.symm.trans e2)
        · exact ⟨m + 1, List.mem_filter.2 ⟨List.mem_range.2 (by omega), by unfold kpB; exact decide_eq_true (.inr (by rw [Nat.add_sub_cancel]; exact h))⟩, e2⟩
    obtain ⟨j, hj, e3⟩ := this k (Nat.le_refl _) rfl
    exact ⟨j, hj, e3.trans e⟩
theorem compLL_strict {xss : List (List Int)} (h : xss.Pairwise fun x y => cmpL x y ≤ 0) : StrictLL (compLL xss) := by
  unfold compLL StrictLL
  rw [List.pairwise_map]
  have hle : ∀ i j, i ≤ j → j < xss.length → cmpL (row xss i) (row xss j) ≤ 0 := fun i j hij hj => by
    rcases Nat.eq_or_lt_of_le hij with e | e
    · rw [e, cmpL_self]; omega
    · have := List.pairwise_iff_getElem.1 h i j (by omega) hj e
      rwa [row_eq (by omega), row_eq hj]
  refine List.Pairwise.imp_of_mem ?_ (kept_rise xss xss.length)
  intro i j hi hj hij
  have hjl := kept_lt hj
  have hk := of_decide_eq_true (List.mem_filter.1 hj).2
  have h1 := hle i (j - 1) (by omega) (by omega)
  have h2 := hle (j - 1) j (by omega) hjl
  have h3 := cmpL_trans h1 h2
  have h4 : cmpL (row xss i) (row xss j) ≠ 0 := fun h5 => by
    have e := cmpL_zero h5
    rw [e] at h1
    rcases hk with hk | hk
    · omega
    · exact hk (cmpL_anti h1 h2)
  omega

/-- The quadrilaterals of all pairs of blocks, as the program finds them. -/
def qRow (xss : List (List Int)) (i k : Nat) : List (List Int) := (List.range k).flatMap fun j => qPair xss i j
def qAll (xss : List (List Int)) (k : Nat) : List (List Int) := (List.range k).flatMap fun i => qRow xss i i
theorem qRow_succ (xss : List (List Int)) (i k : Nat) : qRow xss i (k + 1) = qRow xss i k ++ qPair xss i k := by simp [qRow, List.range_succ]
theorem qAll_succ (xss : List (List Int)) (k : Nat) : qAll xss (k + 1) = qAll xss k ++ qRow xss k k := by simp [qAll, List.range_succ]
theorem qRow_len (xss : List (List Int)) (i k : Nat) : (qRow xss i k).length ≤ 2 * k := by
  induction k with
  | zero => simp [qRow]
  | succ k ih =>
    rw [qRow_succ, List.length_append]
    have := qPair_len xss i k
    omega
theorem qAll_len {xss : List (List Int)} {k : Nat} (hk : k ≤ 128) : (qAll xss k).length ≤ 256 * k := by
  induction k with
  | zero => simp [qAll]
  | succ k ih =>
    rw [qAll_succ, List.length_append]
    have := qRow_len xss k k
    have := ih (by omega)
    omega
theorem qPair_rows {xss : List (List Int)} {a b : Nat} {q : List Int} (h : q ∈ qPair xss a b) : ∃ t, t < 2 ∧ qMeet xss a b ∧ qCond xss a b t = true ∧ q = qd xss a b t := by
  unfold qPair at h
  split at h
  · next hm =>
    obtain ⟨t, ht, e⟩ := List.mem_map.1 h
    have := List.mem_filter.1 ht
    exact ⟨t, List.mem_range.1 this.1, hm, this.2, e.symm⟩
  · simp at h
theorem qPair_four {xss : List (List Int)} {a b : Nat} {q : List Int} (h : q ∈ qPair xss a b) : q.length = 4 := by
  obtain ⟨t, _, _, _, e⟩ := qPair_rows h
  rw [e]; unfold qd; rw [sortL_len]; rfl
theorem qAll_mem {xss : List (List Int)} {k : Nat} {q : List Int} : q ∈ qAll xss k ↔ ∃ i j, i < k ∧ j < i ∧ q ∈ qPair xss i j := by
  unfold qAll qRow
  simp only [List.mem_flatMap, List.mem_range]
  constructor
  · rintro ⟨i, hi, j, hj, h⟩; exact ⟨i, j, hi, hj, h⟩
  · rintro ⟨i, j, hi, hj, h⟩; exact ⟨i, hi, j, hj, h⟩
def qdR (xss : List (List Int)) : List (List Int) := compLL (sortLL (qAll xss xss.length))
theorem qdR_strict (xss : List (List Int)) : StrictLL (qdR xss) := compLL_strict (sortLL_pw _)
theorem sortQ_mem {xss : List (List Int)} {q : List Int} : q ∈ sortLL xss ↔ q ∈ xss := (List.mergeSort_perm xss _).mem_iff
theorem qdR_mem {xss : List (List Int)} {q : List Int} : q ∈ qdR xss ↔ ∃ i j, i < xss.length ∧ j < i ∧ q ∈ qPair xss i j := by
  unfold qdR
  rw [compLL_mem, sortQ_mem, qAll_mem]
theorem tot_four {xss : List (List Int)} (h : ∀ q ∈ xss, q.length = 4) : tot xss = 4 * xss.length := by
  induction xss with
  | nil => rfl
  | cons a l ih =>
    have h1 := ih fun q hq => h q (List.mem_cons_of_mem _ hq)
    have h2 := h a List.mem_cons_self
    rw [show tot (a :: l) = a.length + tot l from rfl, h1, h2, List.length_cons]
    omega
theorem qdR_four {xss : List (List Int)} {q : List Int} (h : q ∈ qdR xss) : q.length = 4 := by
  obtain ⟨i, j, _, _, h⟩ := qdR_mem.1 h
  exact qPair_four h
theorem qdR_len {xss : List (List Int)} (h : xss.length ≤ 128) : (qdR xss).length ≤ 32768 := by
  unfold qdR
  have h1 := compLL_len (sortLL (qAll xss xss.length))
  rw [sortLL_len] at h1
  have := qAll_len (xss := xss) h
  omega

/-- The quadrilaterals that the reference has put down. -/
def qDone (xss : List (List Int)) (a b : Nat) (q : List Int) : Prop := ∃ a' b', a' < b' ∧ b' < xss.length ∧ (a' < a ∨ a' = a ∧ b' < b) ∧ q ∈ qPair xss a' b'
theorem qDone_zero (xss : List (List Int)) (b : Nat) (hb : b ≤ 1) (q : List Int) : ¬ qDone xss 0 b q := by
  rintro ⟨a', b', h1, _, h3, _⟩
  omega
theorem qDone_next {xss : List (List Int)} {a b : Nat} (hab : a < b) (hb : b < xss.length) (q : List Int) : qDone xss a (b + 1) q ↔ qDone xss a b q ∨ q ∈ qPair xss a b := by
  constructor
  · rintro ⟨a', b', h1, h2, h3, h4⟩
    by_cases e : a' = a ∧ b' = b
    · obtain ⟨rfl, rfl⟩ := e; exact .inr h4
    · exact .inl ⟨a', b', h1, h2, by omega, h4⟩
  · rintro (⟨a', b', h1, h2, h3, h4⟩ | h)
    · exact ⟨a', b', h1, h2, by omega, h4⟩
    · exact ⟨a, b, hab, hb, .inr ⟨rfl, by omega⟩, h⟩
theorem qDone_turn {xss : List (List Int)} {a : Nat} (q : List Int) : qDone xss a xss.length q ↔ qDone xss (a + 1) (a + 2) q := by
  constructor
  · rintro ⟨a', b', h1, h2, h3, h4⟩; exact ⟨a', b', h1, h2, by omega, h4⟩
  · rintro ⟨a', b', h1, h2, h3, h4⟩; exact ⟨a', b', h1, h2, by omega, h4⟩
theorem qDone_all {P : Nat} {xss : List (List Int)} (h : TripSys P xss) (b : Nat) (q : List Int) : qDone xss xss.length b q ↔ q ∈ qdR xss := by
  rw [qdR_mem]
  constructor
  · rintro ⟨a', b', h1, h2, h3, h4⟩
    exact ⟨b', a', h2, h1, by rw [h.pair_comm (by omega) h2 (by omega)]; exact h4⟩
  · rintro ⟨i, j, hi, hj, h4⟩
    exact ⟨j, i, hj, hi, .inl (by omega), by rw [h.pair_comm (by omega) (by omega) hi]; exact h4⟩
/-- The blocks of a triple system rise strictly. -/
theorem trip_strict {P : Nat} {xss : List (List Int)} (hD : DsgOk (P : Int) xss) (hT : TripSys P xss) : StrictLL xss := by
  have hle : ∀ j, j < xss.length → ∀ i, i ≤ j → cmpL (row xss i) (row xss j) ≤ 0 := by
    intro j
    induction j with
    | zero =>
      intro _ i hi
      obtain rfl : i = 0 := by omega
      rw [cmpL_self]; omega
    | succ j ih =>
      intro hj i hi
      by_cases e : i = j + 1
      · rw [e, cmpL_self]; omega
      · have h1 := ih (by omega) i (by omega)
        have h2 := (hD.2.2 (j + 1) hj).2 (by omega)
        exact cmpL_trans h1 (by rwa [Nat.add_sub_cancel] at h2)
  refine strict_of fun i j hij hj => ?_
  have h1 := hle j hj i (by omega)
  have h2 : cmpL (row xss i) (row xss j) ≠ 0 := fun h3 => by
    have e := cmpL_zero h3
    obtain ⟨u0, u1, u2, hu⟩ := len_three (hT.three j hj)
    have hb := setB_iff.1 (hT.rows j hj)
    rw [hu] at hb
    have hp := hb.1
    simp at hp
    have b0 := hb.2.1 u0 (by simp)
    have b1 := hb.2.1 u1 (by simp)
    have m0 : ((u0.toNat : Nat) : Int) ∈ row xss j := by rw [hu, show ((u0.toNat : Nat) : Int) = u0 by omega]; simp
    have m1 : ((u1.toNat : Nat) : Int) ∈ row xss j := by rw [hu, show ((u1.toNat : Nat) : Int) = u1 by omega]; simp
    have := hT.same (x := u0.toNat) (y := u1.toNat) (by omega) (by omega) (by omega) (show i < xss.length by omega) hj (by rw [e]; exact m0) (by rw [e]; exact m1) m0 m1
    omega
  omega
end Go.Proofs.YtmmkmkbpgcbehaaGreat
