/-
  The third point of two points of a triple system: as the program fills its square and as the reference looks it up. Plain lists, no program in sight. Conditions: those of each theorem.
-/
import Derived.Test.YtmmkmkbpgcbehaaGreatPlane
namespace Go.Proofs.YtmmkmkbpgcbehaaGreat
set_option linter.unusedVariables false
set_option linter.unusedSimpArgs false

/-- Each two points lie in one block; each block has three points. -/
structure TripSys (P : Nat) (xss : List (List Int)) : Prop where
  rows : RowsOk P xss
  three : ∀ k, k < xss.length → (row xss k).length = 3
  one : ∀ x y, x < y → y < P → cntP xss (x : Int) (y : Int) xss.length = 1

theorem pairL_mem {P : Nat} {xss : List (List Int)} {x y : Nat} (hxy : x < y) (hy : y < P) : cntF xss x y ∈ pairL P xss := by
  unfold pairL pairsTo
  rw [List.mem_flatMap]
  refine ⟨x, List.mem_range.2 (by omega), ?_⟩
  rw [List.mem_iff_getElem]
  refine ⟨y - (x + 1), by rw [List.length_drop, length_rowTo]; omega, ?_⟩
  rw [List.getElem_drop]
  simp only [rowTo, List.getElem_map, List.getElem_range]
  rw [show x + 1 + (y - (x + 1)) = y by omega]
theorem trip_of {P : Nat} {xss : List (List Int)} (hD : DsgOk (P : Int) xss) (h : tripOk P xss) : TripSys P xss := by
  obtain ⟨⟨_, _, _, h1, h2⟩, h3, h4⟩ := h
  refine ⟨hD.rows, fun k hk => (h1 k hk).trans h3, fun x y hxy hy => ?_⟩
  obtain ⟨i, hi, e⟩ := mem_nth.1 (pairL_mem (xss := xss) hxy hy)
  have := h2 i hi
  unfold parL at h4
  unfold cntF at e
  omega

theorem lineP_comm (xss : List (List Int)) (a b : Int) (k : Nat) : lineP xss a b k = lineP xss b a k := by unfold lineP; exact Bool.and_comm _ _
theorem cntP_mono (xss : List (List Int)) (a b : Int) {k m : Nat} (h : k ≤ m) : cntP xss a b k ≤ cntP xss a b m := by
  induction m with
  | zero => obtain rfl : k = 0 := by omega
            exact Nat.le_refl _
  | succ m ih =>
    by_cases e : k = m + 1
    · subst e; exact Nat.le_refl _
    · have := ih (by omega)
      rw [cntP_succ]
      omega
theorem TripSys.uniq {P : Nat} {xss : List (List Int)} (h : TripSys P xss) {x y : Nat} (hne : x ≠ y) (hx : x < P) (hy : y < P) {i j : Nat} (hi : i < xss.length) (hj : j < xss.length) (h1 : lineP xss (x : Int) (y : Int) i = true) (h2 : lineP xss (x : Int) (y : Int) j = true) : i = j := by
  have key : ∀ {x y : Nat}, x < y → y < P → ∀ {i j : Nat}, i < j → j < xss.length → lineP xss (x : Int) (y : Int) i = true → lineP xss (x : Int) (y : Int) j = true → False := by
    intro x y hxy hy i j hij hj h1 h2
    have e1 := cntP_succ xss (x : Int) (y : Int) i
    have e2 := cntP_succ xss (x : Int) (y : Int) j
    rw [if_pos h1] at e1
    rw [if_pos h2] at e2
    have m1 := cntP_mono xss (x : Int) (y : Int) (show i + 1 ≤ j by omega)
    have m2 := cntP_mono xss (x : Int) (y : Int) (show j + 1 ≤ xss.length by omega)
    have := h.one x y hxy hy
    omega
  rcases Nat.lt_or_gt_of_ne hne with hlt | hlt
  · rcases Nat.lt_trichotomy i j with e | e | e
    · exact (key hlt hy e hj h1 h2).elim
    · exact e
    · exact (key hlt hy e hi h2 h1).elim
  · rw [lineP_comm] at h1 h2
    rcases Nat.lt_trichotomy i j with e | e | e
    · exact (key hlt hx e hj h1 h2).elim
    · exact e
    · exact (key hlt hx e hi h2 h1).elim
theorem TripSys.some {P : Nat} {xss : List (List Int)} (h : TripSys P xss) {x y : Nat} (hne : x ≠ y) (hx : x < P) (hy : y < P) : ∃ i, i < xss.length ∧ lineP xss (x : Int) (y : Int) i = true := by
  have key : ∀ {x y : Nat}, x < y → y < P → ∃ i, i < xss.length ∧ lineP xss (x : Int) (y : Int) i = true := by
    intro x y hxy hy
    have h1 := h.one x y hxy hy
    unfold cntP at h1
    have h2 : 0 < ((List.range xss.length).filter (lineP xss (x : Int) (y : Int))).length := by omega
    obtain ⟨i, hi⟩ := List.exists_mem_of_length_pos h2
    rw [List.mem_filter, List.mem_range] at hi
    exact ⟨i, hi⟩
  rcases Nat.lt_or_gt_of_ne hne with hlt | hlt
  · exact key hlt hy
  · obtain ⟨i, hi, e⟩ := key hlt hx
    exact ⟨i, hi, by rw [lineP_comm]; exact e⟩

theorem firstIdx_nat {p : Nat → Bool} {n : Nat} (h : 0 ≤ firstIdx p n) : ∃ k, k < n ∧ firstIdx p n = (k : Int) ∧ p k = true ∧ ∀ j, j < k → p j = false := by
  unfold firstIdx at h ⊢
  rcases hf : (List.range n).find? p with _ | k
  · rw [hf] at h; simp at h
  · refine ⟨k, List.mem_range.1 (List.mem_of_find?_eq_some hf), rfl, List.find?_some hf, fun j hj => ?_⟩
    have := (List.find?_eq_some_iff_append.1 hf).2
    obtain ⟨la, lb, e, hall⟩ := this
    have hk := List.mem_range.1 (List.mem_of_find?_eq_some hf)
    have hlen : la.length = k := by
      have h1 : (List.range n)[la.length]? = some k := by rw [e]; simp
      rw [List.getElem?_eq_some_iff] at h1
      obtain ⟨_, h2⟩ := h1
      simpa using h2
    have hjm : j ∈ la := by
      have h1 : (la ++ k :: lb)[j]? = some j := by rw [← e]; simp [show j < n by omega]
      rw [List.getElem?_append_left (by omega)] at h1
      exact List.mem_of_getElem? h1
    have := hall j hjm
    simpa using this
theorem firstIdx_more {p : Nat → Bool} {k : Nat} (h : p k = false) : firstIdx p (k + 1) = firstIdx p k := by
  by_cases h0 : 0 ≤ firstIdx p k
  · obtain ⟨j, hj, e, h1, h2⟩ := firstIdx_nat h0
    rw [e]
    exact firstIdx_hit (by omega) h1 h2
  · have hm : ∀ j, j < k → p j = false := by
      intro j hj
      rcases hp : p j with _ | _
      · rfl
      · exfalso
        apply h0
        unfold firstIdx
        rcases hf : (List.range k).find? p with _ | i
        · have := List.find?_eq_none.1 hf j (List.mem_range.2 hj)
          rw [hp] at this
          simp at this
        · simp
    rw [firstIdx_miss hm, firstIdx_miss fun j hj => by
      by_cases e : j = k
      · subst e; exact h
      · exact hm j (by omega)]

def sum3 (s : List Int) : Int := nth s 0 + nth s 1 + nth s 2
/-- What the square holds at (x, y) once k blocks are done. -/
def thF (xss : List (List Int)) (k x y : Nat) : Int :=
  if x = y then (x : Int) else if firstIdx (lineP xss (x : Int) (y : Int)) k < 0 then 0 else sum3 (row xss (firstIdx (lineP xss (x : Int) (y : Int)) k).toNat) - x - y
open Classical in
/-- .. and within block s, once i of its points are done. -/
noncomputable def thI (xss : List (List Int)) (s : List Int) (k i x y : Nat) : Int :=
  if x ≠ y ∧ (∃ i', i' < i ∧ x = sN s i') ∧ (y : Int) ∈ s then sum3 s - x - y else thF xss k x y

theorem thI_zero (xss : List (List Int)) (s : List Int) (k : Nat) : thI xss s k 0 = thF xss k := by
  funext x y
  unfold thI
  rw [if_neg (by rintro ⟨_, ⟨i', h, _⟩, _⟩; omega)]

/-- The three points of a block, turned by i. -/
theorem three_sN {P : Nat} {s : List Int} (hs : setB s (P : Int) = true) (h3 : s.length = 3) {i : Nat} (hi : i < 3) :
    sN s i < P ∧ nth s i = (sN s i : Int) ∧ sN s i ≠ sN s ((i + 1) % 3) ∧ sN s i ≠ sN s ((i + 2) % 3) ∧ sN s ((i + 1) % 3) ≠ sN s ((i + 2) % 3) ∧ (∀ y : Nat, (y : Int) ∈ s → y = sN s i ∨ y = sN s ((i + 1) % 3) ∨ y = sN s ((i + 2) % 3)) ∧
    sum3 s = (sN s i : Int) + (sN s ((i + 1) % 3) : Int) + (sN s ((i + 2) % 3) : Int) := by
  have hb := (setB_iff.1 hs).2.1
  have hinj := inj_of hs
  have hmem : ∀ j, j < 3 → nth s j = (sN s j : Int) ∧ sN s j < P := fun j hj => by
    have := hb (nth s j) (by rw [nth_eq (by omega)]; exact List.getElem_mem (by omega))
    unfold sN
    omega
  have hne : ∀ a b, a < 3 → b < 3 → a ≠ b → sN s a ≠ sN s b := fun a b ha hb' hab e => hab (hinj a b (by omega) (by omega) e)
  have hall : ∀ y : Nat, (y : Int) ∈ s → y = sN s 0 ∨ y = sN s 1 ∨ y = sN s 2 := fun y hy => by
    obtain ⟨j, hj, e⟩ := mem_nth.1 hy
    have h1 := (hmem j (by omega)).1
    rcases (show j = 0 ∨ j = 1 ∨ j = 2 by omega) with rfl | rfl | rfl <;> omega
  have hsum : sum3 s = (sN s 0 : Int) + (sN s 1 : Int) + (sN s 2 : Int) := by
    unfold sum3
    rw [(hmem 0 (by omega)).1, (hmem 1 (by omega)).1, (hmem 2 (by omega)).1]
  refine ⟨(hmem i hi).2, (hmem i hi).1, ?_⟩
  rcases (show i = 0 ∨ i = 1 ∨ i = 2 by omega) with rfl | rfl | rfl
  · exact ⟨hne 0 1 (by omega) (by omega) (by omega), hne 0 2 (by omega) (by omega) (by omega), hne 1 2 (by omega) (by omega) (by omega), fun y hy => by have := hall y hy; simpa using this, by simpa using hsum⟩
  · exact ⟨hne 1 2 (by omega) (by omega) (by omega), hne 1 0 (by omega) (by omega) (by omega), hne 2 0 (by omega) (by omega) (by omega), fun y hy => by have := hall y hy; simp only [Nat.reduceAdd, Nat.reduceMod]; omega, by simp only [Nat.reduceAdd, Nat.reduceMod]; omega⟩
  · exact ⟨hne 2 0 (by omega) (by omega) (by omega), hne 2 1 (by omega) (by omega) (by omega), hne 0 1 (by omega) (by omega) (by omega), fun y hy => by have := hall y hy; simp only [Nat.reduceAdd, Nat.reduceMod]; omega, by simp only [Nat.reduceAdd, Nat.reduceMod]; omega⟩
theorem sN_mem {P : Nat} {s : List Int} (hs : setB s (P : Int) = true) {j : Nat} (hj : j < s.length) : ((sN s j : Nat) : Int) ∈ s := (mem_sN hs).2 ⟨j, hj, rfl⟩

theorem thI_succ {P : Nat} {xss : List (List Int)} {s : List Int} (hs : setB s (P : Int) = true) (h3 : s.length = 3) (k : Nat) {i : Nat} (hi : i < 3) :
    upd (upd (thI xss s k i) (sN s i) (sN s ((i + 1) % 3)) (sN s ((i + 2) % 3) : Int)) (sN s i) (sN s ((i + 2) % 3)) (sN s ((i + 1) % 3) : Int) = thI xss s k (i + 1) := by
  obtain ⟨_, _, h1, h2, h4, h5, h6⟩ := three_sN hs h3 hi
  funext x y
  have hm1 := sN_mem hs (j := (i + 1) % 3) (by omega)
  have hm2 := sN_mem hs (j := (i + 2) % 3) (by omega)
  unfold upd
  by_cases e2 : x = sN s i ∧ y = sN s ((i + 2) % 3)
  · obtain ⟨rfl, rfl⟩ := e2
    rw [if_pos ⟨rfl, rfl⟩]
    unfold thI
    rw [if_pos ⟨h2, ⟨i, by omega, rfl⟩, hm2⟩]
    omega
  · rw [if_neg e2]
    by_cases e1 : x = sN s i ∧ y = sN s ((i + 1) % 3)
    · obtain ⟨rfl, rfl⟩ := e1
      rw [if_pos ⟨rfl, rfl⟩]
      unfold thI
      rw [if_pos ⟨h1, ⟨i, by omega, rfl⟩, hm1⟩]
      omega
    · rw [if_neg e1]
      unfold thI
      have : (x ≠ y ∧ (∃ i', i' < i ∧ x = sN s i') ∧ (y : Int) ∈ s) ↔ (x ≠ y ∧ (∃ i', i' < i + 1 ∧ x = sN s i') ∧ (y : Int) ∈ s) := by
        constructor
        · rintro ⟨a, ⟨i', hi', e⟩, b⟩; exact ⟨a, ⟨i', by omega, e⟩, b⟩
        · rintro ⟨a, ⟨i', hi', e⟩, b⟩
          refine ⟨a, ⟨i', ?_, e⟩, b⟩
          by_cases e' : i' = i
          · subst e'
            exfalso
            rcases h5 y b with q | q | q
            · exact a (e.trans q.symm)
            · exact e1 ⟨e, q⟩
            · exact e2 ⟨e, q⟩
          · omega
      by_cases h : (x ≠ y ∧ (∃ i', i' < i ∧ x = sN s i') ∧ (y : Int) ∈ s)
      · rw [if_pos h, if_pos (this.1 h)]
      · rw [if_neg h, if_neg (fun h' => h (this.2 h'))]
theorem upd_comm (f : Nat → Nat → Int) {a b c d : Nat} (h : a ≠ c ∨ b ≠ d) (u v : Int) : upd (upd f a b u) c d v = upd (upd f c d v) a b u := by
  funext x y
  unfold upd
  by_cases e1 : x = c ∧ y = d
  · rw [if_pos e1]
    by_cases e2 : x = a ∧ y = b
    · exfalso; omega
    · rw [if_neg e2, if_pos e1]
  · rw [if_neg e1]
    by_cases e2 : x = a ∧ y = b
    · rw [if_pos e2, if_pos e2]
    · rw [if_neg e2, if_neg e2, if_neg e1]

theorem thI_all {P : Nat} {xss : List (List Int)} (hT : TripSys P xss) {k : Nat} (hk : k < xss.length) {x y : Nat} (hx : x < P) (hy : y < P) : thI xss (row xss k) k 3 x y = thF xss (k + 1) x y := by
  have hs := hT.rows k hk
  have h3 := hT.three k hk
  unfold thI
  by_cases h : x ≠ y ∧ (∃ i', i' < 3 ∧ x = sN (row xss k) i') ∧ (y : Int) ∈ row xss k
  · rw [if_pos h]
    obtain ⟨hne, ⟨i', hi', e⟩, hm⟩ := h
    have hl : lineP xss (x : Int) (y : Int) k = true := by
      unfold lineP
      rw [Bool.and_eq_true, hasB_true, hasB_true]
      exact ⟨by rw [e]; exact sN_mem hs (by omega), hm⟩
    have hf : firstIdx (lineP xss (x : Int) (y : Int)) (k + 1) = (k : Int) := firstIdx_hit (by omega) hl (fun j hj => by
      rcases hp : lineP xss (x : Int) (y : Int) j with _ | _
      · rfl
      · have := hT.uniq hne hx hy (show j < xss.length by omega) hk hp hl
        omega)
    unfold thF
    rw [if_neg hne, hf, if_neg (by omega)]
    rfl
  · rw [if_neg h]
    unfold thF
    by_cases hne : x = y
    · rw [if_pos hne, if_pos hne]
    · rw [if_neg hne, if_neg hne, firstIdx_more]
      rcases hp : lineP xss (x : Int) (y : Int) k with _ | _
      · rfl
      · exfalso
        unfold lineP at hp
        rw [Bool.and_eq_true, hasB_true, hasB_true] at hp
        obtain ⟨i', hi', e⟩ := (mem_sN hs).1 hp.1
        exact h ⟨hne, ⟨i', by omega, e⟩, hp.2⟩
/-- The third point, as the reference looks it up. -/
theorem thF_look {P : Nat} {xss : List (List Int)} (hT : TripSys P xss) {x y : Nat} (hne : x ≠ y) (hx : x < P) (hy : y < P) :
    ∃ k, k < xss.length ∧ firstIdx (lineP xss (x : Int) (y : Int)) xss.length = (k : Int) ∧ thF xss xss.length x y = sum3 (row xss k) - x - y := by
  obtain ⟨i, hi, e⟩ := hT.some hne hx hy
  have h0 : 0 ≤ firstIdx (lineP xss (x : Int) (y : Int)) xss.length := by
    unfold firstIdx
    rcases hf : (List.range xss.length).find? (lineP xss (x : Int) (y : Int)) with _ | j
    · have := List.find?_eq_none.1 hf i (List.mem_range.2 hi)
      rw [e] at this
      simp at this
    · simp
  obtain ⟨k, hk, e1, _, _⟩ := firstIdx_nat h0
  refine ⟨k, hk, e1, ?_⟩
  unfold thF
  rw [if_neg hne, e1, if_neg (by omega)]
  rfl
theorem thF_bd {P : Nat} {xss : List (List Int)} (hT : TripSys P xss) {x y : Nat} (hx : x < P) (hy : y < P) : 0 ≤ thF xss xss.length x y ∧ thF xss xss.length x y < (P : Int) := by
  by_cases hne : x = y
  · unfold thF; rw [if_pos hne]; omega
  · obtain ⟨i, hi, e⟩ := hT.some hne hx hy
    obtain ⟨k, hk, e1, e2⟩ := thF_look hT hne hx hy
    obtain ⟨k', hk', e1', hl, _⟩ := firstIdx_nat (show 0 ≤ firstIdx (lineP xss (x : Int) (y : Int)) xss.length by omega)
    obtain rfl : k = k' := by omega
    have hs := hT.rows k hk
    have h3 := hT.three k hk
    unfold lineP at hl
    rw [Bool.and_eq_true, hasB_true, hasB_true] at hl
    obtain ⟨a, ha, ea⟩ := (mem_sN hs).1 hl.1
    obtain ⟨_, _, _, _, _, h5, h6⟩ := three_sN hs h3 (i := a) (by omega)
    rw [e2]
    have hb1 := (three_sN hs h3 (i := (a + 1) % 3) (by omega)).1
    have hb2 := (three_sN hs h3 (i := (a + 2) % 3) (by omega)).1
    rcases h5 y hl.2 with q | q | q
    · omega
    · rw [h6, ea, q]; omega
    · rw [h6, ea, q]; omega
end Go.Proofs.YtmmkmkbpgcbehaaGreat
