/-
  Cycles of two involutions, in plain Lean: what CyclesOfPair of the program and of the reference meet. Conditions: those of each theorem.
-/
import Derived.Test.YtambaonoeppblaaThird
import Derived.Test.YtambaonoeppblaaSort
namespace Go.Proofs.Ytambaonoeppblaa
set_option linter.unusedVariables false
set_option linter.unusedSimpArgs false

/-- Two involutions without fixed points on the numbers below P outside E. -/
structure Dih (P : Nat) (E : Nat → Prop) (al be : Nat → Nat) : Prop where
  a : ∀ y, y < P → ¬ E y → al y < P ∧ ¬ E (al y) ∧ al (al y) = y ∧ al y ≠ y
  b : ∀ y, y < P → ¬ E y → be y < P ∧ ¬ E (be y) ∧ be (be y) = y ∧ be y ≠ y
def sg (al be : Nat → Nat) (x : Nat) : Nat → Nat
  | 0 => x
  | k + 1 => be (al (sg al be x k))
section
variable {P : Nat} {E : Nat → Prop} {al be : Nat → Nat}
theorem Dih.sg_in (h : Dih P E al be) {x : Nat} (hx : x < P) (he : ¬ E x) (k : Nat) : sg al be x k < P ∧ ¬ E (sg al be x k) := by
  induction k with
  | zero => exact ⟨hx, he⟩
  | succ k ih =>
    have h1 := h.a _ ih.1 ih.2
    have h2 := h.b _ h1.1 h1.2.1
    exact ⟨h2.1, h2.2.1⟩
theorem Dih.al_inj (h : Dih P E al be) {y z : Nat} (hy : y < P) (hey : ¬ E y) (hz : z < P) (hez : ¬ E z) (e : al y = al z) : y = z := by
  rw [← (h.a y hy hey).2.2.1, e, (h.a z hz hez).2.2.1]
theorem Dih.be_inj (h : Dih P E al be) {y z : Nat} (hy : y < P) (hey : ¬ E y) (hz : z < P) (hez : ¬ E z) (e : be y = be z) : y = z := by
  rw [← (h.b y hy hey).2.2.1, e, (h.b z hz hez).2.2.1]
theorem Dih.sg_back (h : Dih P E al be) {x : Nat} (hx : x < P) (he : ¬ E x) (i j : Nat) (e : sg al be x (i + 1) = sg al be x (j + 1)) : sg al be x i = sg al be x j := by
  have hi := h.sg_in hx he i
  have hj := h.sg_in hx he j
  have h1 := h.a _ hi.1 hi.2
  have h2 := h.a _ hj.1 hj.2
  exact h.al_inj hi.1 hi.2 hj.1 hj.2 (h.be_inj h1.1 h1.2.1 h2.1 h2.2.1 e)
theorem Dih.sg_sub (h : Dih P E al be) {x : Nat} (hx : x < P) (he : ¬ E x) (i d : Nat) (e : sg al be x (i + d) = sg al be x i) : sg al be x d = x := by
  induction i with
  | zero => simpa [sg] using e
  | succ i ih => exact ih (h.sg_back hx he (i + d) i (by rw [show i + d + 1 = i + 1 + d by omega]; exact e))
/-- A turned number is never a turned number's partner. -/
theorem Dih.sg_apart (h : Dih P E al be) {x : Nat} (hx : x < P) (he : ¬ E x) : ∀ d i, sg al be x (i + d) ≠ al (sg al be x i)
  | 0, i => fun e => by
    have hi := h.sg_in hx he i
    exact (h.a _ hi.1 hi.2).2.2.2 e.symm
  | 1, i => fun e => by
    have hi := h.sg_in hx he i
    have h1 := h.a _ hi.1 hi.2
    exact (h.b _ h1.1 h1.2.1).2.2.2 e
  | d + 2, i => fun e => by
    have hi := h.sg_in hx he i
    have h1 := h.a _ hi.1 hi.2
    have hd := h.sg_in hx he (i + 1 + d)
    have h2 := h.a _ hd.1 hd.2
    refine h.sg_apart hx he d (i + 1) ?_
    have e1 : be (al (sg al be x (i + 1 + d))) = al (sg al be x i) := by
      have : sg al be x (i + (d + 2)) = be (al (sg al be x (i + 1 + d))) := by rw [show i + (d + 2) = (i + 1 + d) + 1 by omega]; rfl
      rw [← this]; exact e
    have e2 : al (sg al be x (i + 1 + d)) = be (al (sg al be x i)) := by rw [← e1, (h.b _ h2.1 h2.2.1).2.2.1]
    have e3 : sg al be x (i + 1) = al (sg al be x (i + 1 + d)) := e2.symm
    rw [e3, (h.a _ hd.1 hd.2).2.2.1]
/-- How many turns bring x back. -/
def per (al be : Nat → Nat) (P x : Nat) : Nat := (((List.range P).find? fun k => decide (sg al be x (k + 1) = x)).getD 0) + 1
theorem Dih.per_all (h : Dih P E al be) {x : Nat} (hx : x < P) (he : ¬ E x) : sg al be x (per al be P x) = x ∧ per al be P x ≤ P ∧ 0 < per al be P x ∧ ∀ i, 0 < i → i < per al be P x → sg al be x i ≠ x := by
  have hex : ∃ k, k < P ∧ sg al be x (k + 1) = x := by
    refine Classical.byContradiction fun hno => ?_
    have hno' : ∀ k, k < P → sg al be x (k + 1) ≠ x := fun k hk e => hno ⟨k, hk, e⟩
    have hd : ((List.range (P + 1)).map fun k => ((sg al be x k : Nat) : Int)).Nodup := by
      rw [List.Nodup, List.pairwise_map]
      refine List.Pairwise.imp_of_mem ?_ (List.pairwise_lt_range (n := P + 1))
      intro a b ha hb hab e
      have hb := List.mem_range.1 hb
      have e' : sg al be x (a + (b - a)) = sg al be x a := by rw [show a + (b - a) = b by omega]; omega
      have := h.sg_sub hx he a (b - a) e'
      exact hno' (b - a - 1) (by omega) (by rw [show b - a - 1 + 1 = b - a by omega]; exact this)
    have := nodup_count (P := P) hd (fun z hz => by
      obtain ⟨k, _, rfl⟩ := List.mem_map.1 hz
      have := (h.sg_in hx he k).1
      omega)
    have h2 := List.length_filter_le (fun i => hasB ((List.range (P + 1)).map fun k => ((sg al be x k : Nat) : Int)) ((i : Nat) : Int)) (List.range P)
    simp at this h2
    omega
  unfold per
  rcases hf : (List.range P).find? (fun k => decide (sg al be x (k + 1) = x)) with _ | k
  · exfalso
    obtain ⟨k, hk, e⟩ := hex
    have := List.find?_eq_none.1 hf k (List.mem_range.2 hk)
    simp [e] at this
  · have hk := List.mem_range.1 (List.mem_of_find?_eq_some hf)
    have h1 : sg al be x (k + 1) = x := by simpa using List.find?_some hf
    refine ⟨h1, by simp; omega, by simp, fun i hi hik e => ?_⟩
    simp at hik
    obtain ⟨la, lb, e2, hall⟩ := (List.find?_eq_some_iff_append.1 hf).2
    have hlen : la.length = k := by
      have h1 : (List.range P)[la.length]? = some k := by rw [e2]; simp
      rw [List.getElem?_eq_some_iff] at h1
      obtain ⟨_, h2⟩ := h1
      simpa using h2
    have hjm : i - 1 ∈ la := by
      have h1 : (la ++ k :: lb)[i - 1]? = some (i - 1) := by rw [← e2]; simp [show i - 1 < P by omega]
      rw [List.getElem?_append_left (by omega)] at h1
      exact List.mem_of_getElem? h1
    have := hall _ hjm
    rw [show i - 1 + 1 = i by omega] at this
    simp [e] at this
/-- The numbers met by k turns, with their partners. -/
def cyL (al be : Nat → Nat) (x k : Nat) : List Int := (List.range k).flatMap fun i => [((sg al be x i : Nat) : Int), ((al (sg al be x i) : Nat) : Int)]
theorem cyL_succ (al be : Nat → Nat) (x k : Nat) : cyL al be x (k + 1) = cyL al be x k ++ [((sg al be x k : Nat) : Int), ((al (sg al be x k) : Nat) : Int)] := by simp [cyL, List.range_succ]
theorem cyL_len (al be : Nat → Nat) (x k : Nat) : (cyL al be x k).length = 2 * k := by
  induction k with
  | zero => rfl
  | succ k ih => rw [cyL_succ, List.length_append, ih]; rfl
theorem cyL_mem {x k z : Nat} : (z : Int) ∈ cyL al be x k ↔ ∃ i, i < k ∧ (z = sg al be x i ∨ z = al (sg al be x i)) := by
  simp only [cyL, List.mem_flatMap, List.mem_range, List.mem_cons, List.not_mem_nil, or_false]
  constructor
  · rintro ⟨i, hi, h⟩
    refine ⟨i, hi, ?_⟩
    rcases h with h | h
    · left; omega
    · right; omega
  · rintro ⟨i, hi, h⟩
    refine ⟨i, hi, ?_⟩
    rcases h with h | h
    · left; omega
    · right; omega
/-- What is done before x, the lengths too. -/
def dnTo (al be : Nat → Nat) (P : Nat) (D0 : List Int) : Nat → List Int
  | 0 => D0
  | x + 1 => if hasB (dnTo al be P D0 x) (x : Int) = true then dnTo al be P D0 x else dnTo al be P D0 x ++ cyL al be x (per al be P x)
def lnTo (al be : Nat → Nat) (P : Nat) (D0 : List Int) : Nat → List Int
  | 0 => []
  | x + 1 => if hasB (dnTo al be P D0 x) (x : Int) = true then lnTo al be P D0 x else lnTo al be P D0 x ++ [((2 * per al be P x : Nat) : Int)]
/-- D holds E and whole cycles. -/
structure Clo (P : Nat) (E : Nat → Prop) (al be : Nat → Nat) (D : List Int) : Prop where
  e : ∀ z : Nat, z < P → E z → (z : Int) ∈ D
  a : ∀ z : Nat, z < P → ¬ E z → (z : Int) ∈ D → ((al z : Nat) : Int) ∈ D
  b : ∀ z : Nat, z < P → ¬ E z → (z : Int) ∈ D → ((be z : Nat) : Int) ∈ D
theorem Clo.out (h : Dih P E al be) {D : List Int} (hD : Clo P E al be D) {x : Nat} (hx : x < P) (hn : (x : Int) ∉ D) (k : Nat) : ((sg al be x k : Nat) : Int) ∉ D := by
  have he : ¬ E x := fun e => hn (hD.e x hx e)
  induction k with
  | zero => exact hn
  | succ k ih =>
    intro hm
    have hk := h.sg_in hx he k
    have hk1 := h.sg_in hx he (k + 1)
    have h1 := h.a _ hk.1 hk.2
    have h2 := hD.b _ hk1.1 hk1.2 hm
    have e2 : be (sg al be x (k + 1)) = al (sg al be x k) := (h.b _ h1.1 h1.2.1).2.2.1
    rw [e2] at h2
    have h3 := hD.a _ h1.1 h1.2.1 h2
    rw [h1.2.2.1] at h3
    exact ih h3
theorem Clo.fresh (h : Dih P E al be) {D : List Int} (hD : Clo P E al be D) {x k : Nat} (hx : x < P) (hn : (x : Int) ∉ D) (hk : k < per al be P x) : ((sg al be x k : Nat) : Int) ∉ D ++ cyL al be x k := by
  have he : ¬ E x := fun e => hn (hD.e x hx e)
  intro hm
  rcases List.mem_append.1 hm with hm | hm
  · exact Clo.out h hD hx hn k hm
  · obtain ⟨i, hi, e | e⟩ := cyL_mem.1 hm
    · exact (h.per_all hx he).2.2.2 (k - i) (by omega) (by omega) (h.sg_sub hx he i (k - i) (by rw [show i + (k - i) = k by omega]; exact e))
    · exact h.sg_apart hx he (k - i) i (by rw [show i + (k - i) = k by omega]; exact e)
theorem Clo.back (h : Dih P E al be) {D : List Int} (hD : Clo P E al be D) {x : Nat} (hx : x < P) (hn : (x : Int) ∉ D) : ((sg al be x (per al be P x) : Nat) : Int) ∈ D ++ cyL al be x (per al be P x) := by
  have he : ¬ E x := fun e => hn (hD.e x hx e)
  have hp := h.per_all hx he
  rw [List.mem_append]
  right
  exact cyL_mem.2 ⟨0, hp.2.2.1, .inl hp.1⟩
theorem Clo.next (h : Dih P E al be) {D : List Int} (hD : Clo P E al be D) {x : Nat} (hx : x < P) (hn : (x : Int) ∉ D) : Clo P E al be (D ++ cyL al be x (per al be P x)) := by
  have he : ¬ E x := fun e => hn (hD.e x hx e)
  obtain ⟨hp1, hp2, hp3, hp4⟩ := h.per_all hx he
  refine ⟨fun z hz e => List.mem_append.2 (.inl (hD.e z hz e)), fun z hz e hm => ?_, fun z hz e hm => ?_⟩
  · rcases List.mem_append.1 hm with hm | hm
    · exact List.mem_append.2 (.inl (hD.a z hz e hm))
    · refine List.mem_append.2 (.inr ?_)
      obtain ⟨i, hi, e | e⟩ := cyL_mem.1 hm
      · exact cyL_mem.2 ⟨i, hi, .inr (by rw [e])⟩
      · have hk := h.sg_in hx he i
        exact cyL_mem.2 ⟨i, hi, .inl (by rw [e, (h.a _ hk.1 hk.2).2.2.1])⟩
  · rcases List.mem_append.1 hm with hm | hm
    · exact List.mem_append.2 (.inl (hD.b z hz e hm))
    · refine List.mem_append.2 (.inr ?_)
      have key : ∀ i, be (sg al be x (i + 1)) = al (sg al be x i) := fun i => by
        have hk := h.sg_in hx he i
        have h1 := h.a _ hk.1 hk.2
        exact (h.b _ h1.1 h1.2.1).2.2.1
      obtain ⟨i, hi, e | e⟩ := cyL_mem.1 hm
      · rcases i with _ | i
        · refine cyL_mem.2 ⟨per al be P x - 1, by omega, .inr ?_⟩
          have := key (per al be P x - 1)
          rw [show per al be P x - 1 + 1 = per al be P x by omega, hp1] at this
          rw [e]; exact this
        · exact cyL_mem.2 ⟨i, by omega, .inr (by rw [e, key])⟩
      · by_cases hl : i + 1 < per al be P x
        · exact cyL_mem.2 ⟨i + 1, hl, .inl (by rw [e]; rfl)⟩
        · refine cyL_mem.2 ⟨0, hp3, .inl ?_⟩
          rw [e]
          have : i + 1 = per al be P x := by omega
          rw [← this] at hp1
          exact hp1
theorem Clo.all (h : Dih P E al be) {D0 : List Int} (hD : Clo P E al be D0) {x : Nat} (hx : x ≤ P) : Clo P E al be (dnTo al be P D0 x) := by
  induction x with
  | zero => exact hD
  | succ x ih =>
    have := ih (by omega)
    unfold dnTo
    split
    · exact this
    · next hm => exact Clo.next h this (by omega) (by rwa [hasB_true] at hm)
theorem lnTo_len (al be : Nat → Nat) (P : Nat) (D0 : List Int) (x : Nat) : (lnTo al be P D0 x).length ≤ x := by
  induction x with
  | zero => simp [lnTo]
  | succ x ih =>
    unfold lnTo
    split
    · omega
    · rw [List.length_append, List.length_singleton]; omega
end

/-! ### The third points -/
theorem th_blk {P : Nat} {xss : List (List Int)} (hT : TripSys P xss) {x y : Nat} (hne : x ≠ y) (hx : x < P) (hy : y < P) :
    ∃ k z : Nat, k < xss.length ∧ thF xss xss.length x y = (z : Int) ∧ z < P ∧ z ≠ x ∧ z ≠ y ∧ (x : Int) ∈ row xss k ∧ (y : Int) ∈ row xss k ∧ (z : Int) ∈ row xss k ∧ sum3 (row xss k) = (x : Int) + y + z := by
  obtain ⟨k, hk, e1, e2⟩ := thF_look hT hne hx hy
  obtain ⟨k', hk', e1', hl, _⟩ := firstIdx_nat (show 0 ≤ firstIdx (lineP xss (x : Int) (y : Int)) xss.length by omega)
  obtain rfl : k = k' := by omega
  have hs := hT.rows k hk
  have h3 := hT.three k hk
  unfold lineP at hl
  rw [Bool.and_eq_true, hasB_true, hasB_true] at hl
  obtain ⟨a, ha, ea⟩ := (mem_sN hs).1 hl.1
  obtain ⟨_, _, n1, n2, n3, h5, h6⟩ := three_sN hs h3 (i := a) (by omega)
  have hb1 := (three_sN hs h3 (i := (a + 1) % 3) (by omega)).1
  have hb2 := (three_sN hs h3 (i := (a + 2) % 3) (by omega)).1
  have hm1 := sN_mem hs (j := (a + 1) % 3) (by omega)
  have hm2 := sN_mem hs (j := (a + 2) % 3) (by omega)
  rcases h5 y hl.2 with q | q | q
  · exact absurd (by omega) hne
  · exact ⟨k, sN (row xss k) ((a + 2) % 3), hk, by omega, hb2, by omega, by omega, hl.1, hl.2, hm2, by omega⟩
  · exact ⟨k, sN (row xss k) ((a + 1) % 3), hk, by omega, hb1, by omega, by omega, hl.1, hl.2, hm1, by omega⟩
theorem th_of {P : Nat} {xss : List (List Int)} (hT : TripSys P xss) {x y k : Nat} (hne : x ≠ y) (hx : x < P) (hy : y < P) (hk : k < xss.length) (h1 : (x : Int) ∈ row xss k) (h2 : (y : Int) ∈ row xss k) :
    thF xss xss.length x y = sum3 (row xss k) - x - y := by
  obtain ⟨j, z, hj, e, _, _, _, m1, m2, _, e2⟩ := th_blk hT hne hx hy
  obtain rfl : j = k := hT.uniq hne hx hy hj hk (by unfold lineP; rw [Bool.and_eq_true, hasB_true, hasB_true]; exact ⟨m1, m2⟩) (by unfold lineP; rw [Bool.and_eq_true, hasB_true, hasB_true]; exact ⟨h1, h2⟩)
  omega
def thN (xss : List (List Int)) (a y : Nat) : Nat := (thF xss xss.length a y).toNat
theorem thN_eq {P : Nat} {xss : List (List Int)} (hT : TripSys P xss) {a y : Nat} (ha : a < P) (hy : y < P) : thF xss xss.length a y = ((thN xss a y : Nat) : Int) ∧ thN xss a y < P := by
  have := thF_bd hT ha hy
  unfold thN
  omega
theorem thN_all {P : Nat} {xss : List (List Int)} (hT : TripSys P xss) {a y : Nat} (hne : a ≠ y) (ha : a < P) (hy : y < P) :
    thN xss a y ≠ a ∧ thN xss a y ≠ y ∧ thN xss a (thN xss a y) = y ∧ thN xss y a = thN xss a y ∧ thN xss y (thN xss a y) = a := by
  obtain ⟨k, z, hk, e, hz, n1, n2, m1, m2, m3, hs⟩ := th_blk hT hne ha hy
  have ez : thN xss a y = z := by unfold thN; omega
  have e1 := th_of hT (x := a) (y := z) (by omega) ha hz hk m1 m3
  have e2 := th_of hT (x := y) (y := a) (by omega) hy ha hk m2 m1
  have e3 := th_of hT (x := y) (y := z) (by omega) hy hz hk m2 m3
  rw [ez]
  refine ⟨n1, n2, ?_, ?_, ?_⟩ <;> unfold thN <;> omega
def ptE (xss : List (List Int)) (a b z : Nat) : Prop := z = a ∨ z = b ∨ z = thN xss a b
theorem th_dih {P : Nat} {xss : List (List Int)} (hT : TripSys P xss) {a b : Nat} (hne : a ≠ b) (ha : a < P) (hb : b < P) : Dih P (ptE xss a b) (thN xss a) (thN xss b) := by
  obtain ⟨c1, c2, c3, c4, c5⟩ := thN_all hT hne ha hb
  have hc := (thN_eq hT ha hb).2
  obtain ⟨d1, d2, d3, d4, d5⟩ := thN_all hT (fun e => hne e.symm) hb ha
  refine ⟨fun y hy he => ?_, fun y hy he => ?_⟩
  · unfold ptE at he ⊢
    obtain ⟨q1, q2, q3, q4, q5⟩ := thN_all hT (show a ≠ y by omega) ha hy
    refine ⟨(thN_eq hT ha hy).2, fun h => ?_, q3, q2⟩
    rcases h with h | h | h
    · exact q1 h
    · rw [h] at q3; exact he (.inr (.inr q3.symm))
    · rw [h, c3] at q3; exact he (.inr (.inl q3.symm))
  · unfold ptE at he ⊢
    obtain ⟨q1, q2, q3, q4, q5⟩ := thN_all hT (show b ≠ y by omega) hb hy
    refine ⟨(thN_eq hT hb hy).2, fun h => ?_, q3, q2⟩
    rcases h with h | h | h
    · rw [h] at q3; exact he (.inr (.inr (by rw [← c4]; exact q3.symm)))
    · exact q1 h
    · rw [h, ← c4] at q3; rw [d3] at q3; exact he (.inl q3.symm)
def D0 (xss : List (List Int)) (a b : Nat) : List Int := [(a : Int), (b : Int), ((thN xss a b : Nat) : Int)]
theorem th_clo {P : Nat} (xss : List (List Int)) (a b : Nat) : Clo P (ptE xss a b) (thN xss a) (thN xss b) (D0 xss a b) := by
  have hin : ∀ z : Nat, (z : Int) ∈ D0 xss a b ↔ ptE xss a b z := fun z => by
    unfold D0 ptE
    simp only [List.mem_cons, List.not_mem_nil, or_false]
    omega
  exact ⟨fun z _ e => (hin z).2 e, fun z _ e hm => absurd ((hin z).1 hm) e, fun z _ e hm => absurd ((hin z).1 hm) e⟩

/-! ### Sorted lengths -/
theorem sortL_unique {xs ys : List Int} (hp : ys.Perm xs) (hs : ys.Pairwise (· ≤ ·)) : ys = sortL xs :=
  List.Perm.eq_of_pairwise (fun _ _ _ _ h1 h2 => Int.le_antisymm h1 h2) hs (sortL_le xs) (hp.trans (List.mergeSort_perm xs _).symm)
/-- n put into a sorted list behind all that are not greater. -/
theorem sortL_put {xs : List Int} {n : Int} {k : Nat} (hk : k ≤ xs.length) (h1 : ∀ j, j < k → nth (sortL xs) j ≤ n) (h2 : ∀ j, k ≤ j → j < xs.length → n < nth (sortL xs) j) :
    (sortL xs).take k ++ [n] ++ (sortL xs).drop k = sortL (xs ++ [n]) := by
  refine sortL_unique ?_ ?_
  · have e1 : ((sortL xs).take k ++ [n] ++ (sortL xs).drop k).Perm ([n] ++ ((sortL xs).take k ++ (sortL xs).drop k)) := by
      rw [← List.append_assoc]; exact List.Perm.append_right _ List.perm_append_comm
    refine e1.trans ?_
    rw [List.take_append_drop]
    exact (List.perm_append_comm.trans (List.Perm.append_right _ (List.mergeSort_perm xs _)))
  · have hl := sortL_len xs
    have hs := sortL_le xs
    rw [List.append_assoc, List.pairwise_append]
    refine ⟨hs.sublist (List.take_sublist _ _), ?_, ?_⟩
    · rw [List.singleton_append, List.pairwise_cons]
      refine ⟨fun z hz => ?_, hs.sublist (List.drop_sublist _ _)⟩
      obtain ⟨i, hi, e⟩ := List.mem_iff_getElem.1 hz
      rw [List.getElem_drop] at e
      rw [List.length_drop] at hi
      have := h2 (k + i) (by omega) (by omega)
      rw [nth_eq (by omega), e] at this
      omega
    · intro u hu v hv
      obtain ⟨i, hi, e⟩ := List.mem_iff_getElem.1 hu
      rw [List.getElem_take] at e
      rw [List.length_take] at hi
      have h3 := h1 i (by omega)
      rw [nth_eq (by omega), e] at h3
      rcases List.mem_append.1 hv with hv | hv
      · simp at hv; omega
      · obtain ⟨j, hj, e'⟩ := List.mem_iff_getElem.1 hv
        rw [List.getElem_drop] at e'
        rw [List.length_drop] at hj
        have := h2 (k + j) (by omega) (by omega)
        rw [nth_eq (by omega), e'] at this
        omega
/-- What CyclesOfPair answers. -/
def cpL (p : Int) (xss : List (List Int)) (a b : Int) : List Int :=
  if twoI p xss a b = 0 then sortL (lnTo (thN xss a.toNat) (thN xss b.toNat) p.toNat (D0 xss a.toNat b.toNat) p.toNat) else []
theorem CyclesOfPair_small (p : Int) (xss : List (List Int)) (a b : Int) : (cpL p xss a b).length ≤ 1048576 := by
  unfold cpL
  split
  · next h =>
    have h1 := (trip_dsg (twoI_zero h).1).1.1
    rw [sortL_len]
    have := lnTo_len (thN xss a.toNat) (thN xss b.toNat) p.toNat (D0 xss a.toNat b.toNat) p.toNat
    omega
  · simp
end Go.Proofs.Ytambaonoeppblaa
