/-
  A quadrilateral is switched: what SwitchPasch answers. Conditions: those of each theorem.
-/
import Derived.Test.YtmmkmkbpgcbehaaGreatPswP
import Derived.Test.YtmmkmkbpgcbehaaGreatSmL
namespace Go.Proofs.YtmmkmkbpgcbehaaGreat
open Go.RowKit
set_option linter.unusedVariables false
set_option linter.unusedSimpArgs false

theorem mem_unionQ {xs ys : List Int} {z : Int} (hx : setB xs 32 = true) (hy : setB ys 32 = true) : z ∈ unionL xs ys ↔ z ∈ xs ∨ z ∈ ys := by
  rw [show unionL xs ys = fltTo xs ys (fun p q => p || q) 32 by simp [unionL, filtL, hx, hy], mem_fltTo, Bool.or_eq_true, hasB_true, hasB_true]
  have h1 := (setB_iff.1 hx).2.1 z
  have h2 := (setB_iff.1 hy).2.1 z
  constructor
  · rintro ⟨_, h⟩; exact h
  · intro h
    refine ⟨?_, h⟩
    rcases h with h | h
    · have := h1 h; omega
    · have := h2 h; omega
theorem unionQ_set {xs ys : List Int} (hx : setB xs 32 = true) (hy : setB ys 32 = true) : setB (unionL xs ys) 32 = true := by
  refine setB_iff.2 ⟨?_, fun z hz => ?_, by omega, by omega⟩
  · rw [show unionL xs ys = fltTo xs ys (fun p q => p || q) 32 by simp [unionL, filtL, hx, hy]]
    exact fltTo_rise _ _ _ _
  · rcases (mem_unionQ hx hy).1 hz with h | h
    · exact (setB_iff.1 hx).2.1 z h
    · exact (setB_iff.1 hy).2.1 z h
/-- The row that the i-th number of a list names. -/
def qRw (xss : List (List Int)) (q : List Int) (i : Nat) : List Int := row xss (nth q i).toNat
def allT (xss : List (List Int)) (q : List Int) : Nat → List Int
  | 0 => []
  | i + 1 => unionL (allT xss q i) (qRw xss q i)
def witT (xss : List (List Int)) (q : List Int) (x : Int) : Nat → List Int
  | 0 => []
  | i + 1 => if hasB (qRw xss q i) x = true then unionL (witT xss q x i) (qRw xss q i) else witT xss q x i
theorem nilQ : setB ([] : List Int) 32 = true := setB_iff.2 ⟨List.Pairwise.nil, by simp, by omega, by omega⟩
theorem qRw_set {P : Nat} {xss : List (List Int)} (hT : TripSys P xss) {q : List Int} (hq : q ∈ qdR xss) {i : Nat} (hi : i < 4) : setB (qRw xss q i) 32 = true ∧ (nth q i).toNat < xss.length ∧ nth q i ∈ q ∧ 0 ≤ nth q i := by
  obtain ⟨h4, _, hlt⟩ := quad_lt hT hq
  have h0 : nth q i ∈ q := by rw [nth_eq (by omega)]; exact List.getElem_mem (by omega)
  have := hlt _ h0
  exact ⟨setQ (hT.rows _ (by omega)), by omega, h0, this.1⟩
theorem allT_set {P : Nat} {xss : List (List Int)} (hT : TripSys P xss) {q : List Int} (hq : q ∈ qdR xss) : ∀ i, i ≤ 4 → setB (allT xss q i) 32 = true ∧ ∀ z, z ∈ allT xss q i ↔ ∃ j, j < i ∧ z ∈ qRw xss q j
  | 0, _ => ⟨nilQ, fun z => by simp [allT]⟩
  | i + 1, hi => by
    obtain ⟨h1, h2⟩ := allT_set hT hq i (by omega)
    have h3 := (qRw_set hT hq (i := i) (by omega)).1
    refine ⟨unionQ_set h1 h3, fun z => ?_⟩
    rw [allT, mem_unionQ h1 h3, h2]
    constructor
    · rintro (⟨j, hj, h⟩ | h)
      · exact ⟨j, by omega, h⟩
      · exact ⟨i, by omega, h⟩
    · rintro ⟨j, hj, h⟩
      by_cases e : j = i
      · subst e; exact .inr h
      · exact .inl ⟨j, by omega, h⟩
theorem witT_set {P : Nat} {xss : List (List Int)} (hT : TripSys P xss) {q : List Int} (hq : q ∈ qdR xss) (x : Int) : ∀ i, i ≤ 4 → setB (witT xss q x i) 32 = true ∧ ∀ z, z ∈ witT xss q x i ↔ ∃ j, j < i ∧ x ∈ qRw xss q j ∧ z ∈ qRw xss q j
  | 0, _ => ⟨nilQ, fun z => by simp [witT]⟩
  | i + 1, hi => by
    obtain ⟨h1, h2⟩ := witT_set hT hq x i (by omega)
    have h3 := (qRw_set hT hq (i := i) (by omega)).1
    by_cases hx : hasB (qRw xss q i) x = true
    · rw [show witT xss q x (i + 1) = unionL (witT xss q x i) (qRw xss q i) from if_pos hx]
      refine ⟨unionQ_set h1 h3, fun z => ?_⟩
      rw [mem_unionQ h1 h3, h2]
      constructor
      · rintro (⟨j, hj, h⟩ | h)
        · exact ⟨j, by omega, h⟩
        · exact ⟨i, by omega, hasB_true.1 hx, h⟩
      · rintro ⟨j, hj, h, h'⟩
        by_cases e : j = i
        · subst e; exact .inr h'
        · exact .inl ⟨j, by omega, h, h'⟩
    · rw [show witT xss q x (i + 1) = witT xss q x i from if_neg hx]
      refine ⟨h1, fun z => ?_⟩
      rw [h2]
      constructor
      · rintro ⟨j, hj, h⟩; exact ⟨j, by omega, h⟩
      · rintro ⟨j, hj, h, h'⟩
        by_cases e : j = i
        · subst e; exact absurd (hasB_true.2 h) hx
        · exact ⟨j, by omega, h, h'⟩
theorem any_row {q : List Int} {p : Int → Prop} (h4 : q.length = 4) : (∃ k ∈ q, p k) ↔ ∃ j, j < 4 ∧ p (nth q j) := by
  constructor
  · rintro ⟨k, hk, h⟩
    obtain ⟨j, hj, rfl⟩ := List.getElem_of_mem hk
    exact ⟨j, by omega, by rw [nth_eq hj]; exact h⟩
  · rintro ⟨j, hj, h⟩
    exact ⟨nth q j, by rw [nth_eq (by omega)]; exact List.getElem_mem (by omega), h⟩
def spF (xss : List (List Int)) (q : List Int) : Int := nth (qRw xss q 0) 0
def spO (xss : List (List Int)) (q : List Int) : Int := nth (minusL (allT xss q 4) (witT xss q (spF xss q) 4)) 0
/-- The two points that are exchanged. -/
theorem sp_points {P : Nat} {xss : List (List Int)} (hD : DsgOk (P : Int) xss) (hT : TripSys P xss) {q : List Int} (hq : q ∈ qdR xss) :
    minusL (allT xss q 4) (witT xss q (spF xss q) 4) = [spO xss q] ∧ OppOk xss q (spF xss q) (spO xss q) ∧ 0 ≤ spF xss q ∧ spF xss q < spO xss q ∧ spO xss q < (P : Int) := by
  obtain ⟨h4, _, hlt⟩ := quad_lt hT hq
  obtain ⟨h1, h2, h3, h5⟩ := qRw_set hT hq (i := 0) (by omega)
  have h6 := hT.three _ h2
  have hF : spF xss q ∈ row xss (nth q 0).toNat := by
    unfold spF qRw
    rw [nth_eq (xs := row xss (nth q 0).toNat) (by omega)]
    exact List.getElem_mem (by omega)
  obtain ⟨o, hoP, hO⟩ := opp_of hT hq h3 hF
  obtain ⟨a1, a2⟩ := allT_set hT hq 4 (by omega)
  obtain ⟨b1, b2⟩ := witT_set hT hq (spF xss q) 4 (by omega)
  have hm : ∀ z, z ∈ minusL (allT xss q 4) (witT xss q (spF xss q) 4) ↔ z = (o : Int) := fun z => by
    rw [mem_minusQ a1 b1, a2, b2, ← hO.1 z, any_row h4]
    refine and_congr Iff.rfl ?_
    constructor
    · intro h k hk h'
      obtain ⟨j, hj, rfl⟩ := List.getElem_of_mem hk
      exact h ⟨j, by omega, by unfold qRw; rw [nth_eq hj]; exact h'.1, by unfold qRw; rw [nth_eq hj]; exact h'.2⟩
    · rintro h ⟨j, hj, h', h''⟩
      exact h (nth q j) (by rw [nth_eq (by omega)]; exact List.getElem_mem (by omega)) ⟨h', h''⟩
  have he : minusL (allT xss q 4) (witT xss q (spF xss q) 4) = [(o : Int)] :=
    rise_ext (setB_iff.1 (minusQ_set a1 b1)).1 (by simp) (fun z => by rw [hm]; simp)
  have hOo : spO xss q = (o : Int) := by unfold spO; rw [he]; rfl
  rw [hOo]
  refine ⟨he, hO, ?_, ?_, by omega⟩
  · exact ((setB_iff.1 h1).2.1 _ hF).1
  · obtain ⟨⟨k, hk, hz⟩, hno⟩ := (hO.1 (o : Int)).2 rfl
    have := first_least hD hT hq hk hz
    have hne : spF xss q ≠ (o : Int) := fun e => hno _ h3 ⟨hF, by rw [← e]; exact hF⟩
    have : nth (row xss (nth q 0).toNat) 0 = spF xss q := rfl
    omega
/-- Two numbers exchanged. -/
def sw (x o z : Int) : Int := if z = o then x else if z = x then o else z
def swp (P : Nat) (x o : Int) : List Int := ((idL P).set x.toNat o).set o.toNat x
theorem swp_len (P : Nat) (x o : Int) : (swp P x o).length = P := by simp [swp, idL]
theorem swp_nth {P : Nat} {x o : Int} (hx : 0 ≤ x) (hxo : x < o) (ho : o < (P : Int)) {k : Nat} (hk : k < P) : nth (swp P x o) k = sw x o (k : Int) := by
  unfold nth swp sw
  by_cases e1 : (k : Int) = o
  · rw [if_pos e1, show o.toNat = k by omega, List.getElem?_set_self (by simp [idL]; omega)]
    rfl
  · rw [if_neg e1, List.getElem?_set_ne (by omega)]
    by_cases e2 : (k : Int) = x
    · rw [if_pos e2, show x.toNat = k by omega, List.getElem?_set_self (by simp [idL]; omega)]
      rfl
    · rw [if_neg e2, List.getElem?_set_ne (by omega)]
      simp [idL, hk]
theorem sw_inj {x o a b : Int} (h : sw x o a = sw x o b) : a = b := by
  unfold sw at h
  split at h <;> split at h <;> (try split at h) <;> (try split at h) <;> omega
theorem im_sw {P : Nat} {x o : Int} (hx : 0 ≤ x) (hxo : x < o) (ho : o < (P : Int)) {b : List Int} (hb : setB b (P : Int) = true) {i : Nat} (hi : i < b.length) : imF (swp P x o) b i = sw x o (nth b i) := by
  have h := (setB_iff.1 hb).2.1 (nth b i) (by rw [nth_eq hi]; exact List.getElem_mem hi)
  unfold imF
  rw [swp_nth hx hxo ho (by omega)]
  congr 1
  omega
theorem im_swp {P : Nat} {x o : Int} (hx : 0 ≤ x) (hxo : x < o) (ho : o < (P : Int)) {b : List Int} (hb : setB b (P : Int) = true) : imL (swp P x o) b = sortL ((List.range b.length).map (imF (swp P x o) b)) := by
  refine putsTo_sort fun i j hij hj e => ?_
  rw [im_sw hx hxo ho hb (by omega), im_sw hx hxo ho hb hj] at e
  have h1 := sw_inj e
  have := List.pairwise_iff_getElem.1 (setB_iff.1 hb).1 i j (by omega) hj hij
  rw [nth_eq (by omega), nth_eq hj] at h1
  omega
theorem im_mem {P : Nat} {x o : Int} (hx : 0 ≤ x) (hxo : x < o) (ho : o < (P : Int)) {b : List Int} (hb : setB b (P : Int) = true) (z : Int) : z ∈ imL (swp P x o) b ↔ ∃ y ∈ b, sw x o y = z := by
  unfold imL
  rw [putsTo_mem]
  constructor
  · rintro ⟨j, hj, e⟩
    exact ⟨nth b j, by rw [nth_eq hj]; exact List.getElem_mem hj, by rw [← im_sw hx hxo ho hb hj]; exact e⟩
  · rintro ⟨y, hy, e⟩
    obtain ⟨j, hj, rfl⟩ := List.getElem_of_mem hy
    exact ⟨j, hj, by rw [im_sw hx hxo ho hb hj, nth_eq hj]; exact e⟩
/-- The image of a block, put together. -/
theorem im_put {P : Nat} {x o : Int} (hP : P ≤ 32) (hx : 0 ≤ x) (hxo : x < o) (ho : o < (P : Int)) {b : List Int} (hb : setB b (P : Int) = true) :
    (x ∈ b → o ∉ b → imL (swp P x o) b = putL (minusL b [x, o]) o) ∧ (x ∉ b → o ∈ b → imL (swp P x o) b = putL (minusL b [x, o]) x) := by
  have h32 : setB b 32 = true := setQ hb
  have hxo2 : setB [x, o] 32 = true := setB_iff.2 ⟨by simp; omega, fun z hz => by simp at hz; omega, by omega, by omega⟩
  have hr := (setB_iff.1 (minusQ_set h32 hxo2)).1
  refine ⟨fun h1 h2 => rise_ext (putsTo_rise _ _) (putL_rise hr) (fun z => ?_), fun h1 h2 => rise_ext (putsTo_rise _ _) (putL_rise hr) (fun z => ?_)⟩
  · rw [im_mem hx hxo ho hb, putL_mem, mem_minusQ h32 hxo2]
    simp only [List.mem_cons, List.not_mem_nil, or_false]
    constructor
    · rintro ⟨y, hy, rfl⟩
      unfold sw
      have : y ≠ o := fun e => h2 (e ▸ hy)
      rw [if_neg this]
      by_cases e : y = x
      · rw [if_pos e]; exact .inl rfl
      · rw [if_neg e]; exact .inr ⟨hy, by omega⟩
    · rintro (rfl | ⟨hz, hn⟩)
      · exact ⟨x, h1, by unfold sw; rw [if_neg (by omega), if_pos rfl]⟩
      · exact ⟨z, hz, by unfold sw; rw [if_neg (by omega), if_neg (by omega)]⟩
  · rw [im_mem hx hxo ho hb, putL_mem, mem_minusQ h32 hxo2]
    simp only [List.mem_cons, List.not_mem_nil, or_false]
    constructor
    · rintro ⟨y, hy, rfl⟩
      unfold sw
      by_cases e : y = o
      · rw [if_pos e]; exact .inl rfl
      · have : y ≠ x := fun e => h1 (e ▸ hy)
        rw [if_neg e, if_neg this]; exact .inr ⟨hy, by omega⟩
    · rintro (rfl | ⟨hz, hn⟩)
      · exact ⟨o, h2, by unfold sw; rw [if_pos rfl]⟩
      · exact ⟨z, hz, by unfold sw; rw [if_neg (by omega), if_neg (by omega)]⟩
/-- The blocks behind the exchange. -/
def spRow (P : Nat) (xss : List (List Int)) (q : List Int) (k : Nat) : List Int := if hasB q (k : Int) = true then imL (swp P (spF xss q) (spO xss q)) (row xss k) else row xss k
def spL (P : Nat) (xss : List (List Int)) (q : List Int) : List (List Int) := (List.range xss.length).map (spRow P xss q)
theorem spL_len (P : Nat) (xss : List (List Int)) (q : List Int) : (spL P xss q).length = xss.length := by simp [spL]
theorem spRow_len {P : Nat} {xss : List (List Int)} (hT : TripSys P xss) {q : List Int} {k : Nat} (hk : k < xss.length) : (spRow P xss q k).length ≤ 3 := by
  have := hT.three k hk
  unfold spRow
  split
  · have := imL_len (swp P (spF xss q) (spO xss q)) (row xss k); omega
  · omega
def spC (p : Int) (xss : List (List Int)) (q : List Int) : Int := if tripB p xss = true then (if fdB (qdR xss) q = true then 0 else 6) else 1
def spP (p : Int) (xss : List (List Int)) (q : List Int) : Int := if spC p xss q = 0 then p else 0
def spX (p : Int) (xss : List (List Int)) (q : List Int) : List (List Int) := if spC p xss q = 0 then sortLL (spL p.toNat xss q) else []
end Go.Proofs.YtmmkmkbpgcbehaaGreat
