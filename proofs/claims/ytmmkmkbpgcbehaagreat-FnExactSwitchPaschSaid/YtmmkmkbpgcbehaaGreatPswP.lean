/-
  A quadrilateral is switched: plain laws. Conditions: those of each theorem.
-/
import Derived.Test.YtmmkmkbpgcbehaaGreatGb
import Derived.Test.YtmmkmkbpgcbehaaGreatRelP
namespace Go.Proofs.YtmmkmkbpgcbehaaGreat
open Go.RowKit
set_option linter.unusedVariables false
set_option linter.unusedSimpArgs false

/-- The four blocks of a quadrilateral: three pairs of opposite points. -/
structure Quad (P : Nat) (xss : List (List Int)) (k1 k2 k3 k4 u1 u2 u3 v1 v2 v3 : Nat) : Prop where
  ks : k1 < xss.length ∧ k2 < xss.length ∧ k3 < xss.length ∧ k4 < xss.length
  ps : u1 < P ∧ u2 < P ∧ u3 < P ∧ v1 < P ∧ v2 < P ∧ v3 < P
  ne : u1 ≠ u2 ∧ u1 ≠ u3 ∧ u1 ≠ v1 ∧ u1 ≠ v2 ∧ u1 ≠ v3 ∧ u2 ≠ u3 ∧ u2 ≠ v1 ∧ u2 ≠ v2 ∧ u2 ≠ v3 ∧ u3 ≠ v1 ∧ u3 ≠ v2 ∧ u3 ≠ v3 ∧ v1 ≠ v2 ∧ v1 ≠ v3 ∧ v2 ≠ v3
  m1 : ∀ z : Int, z ∈ row xss k1 ↔ z = (u1 : Int) ∨ z = (u2 : Int) ∨ z = (u3 : Int)
  m2 : ∀ z : Int, z ∈ row xss k2 ↔ z = (u1 : Int) ∨ z = (v2 : Int) ∨ z = (v3 : Int)
  m3 : ∀ z : Int, z ∈ row xss k3 ↔ z = (v1 : Int) ∨ z = (u2 : Int) ∨ z = (v3 : Int)
  m4 : ∀ z : Int, z ∈ row xss k4 ↔ z = (v1 : Int) ∨ z = (v2 : Int) ∨ z = (u3 : Int)
theorem quad_of {P : Nat} {xss : List (List Int)} (hT : TripSys P xss) {q : List Int} (hq : q ∈ qdR xss) : ∃ k1 k2 k3 k4 u1 u2 u3 v1 v2 v3 : Nat, Quad P xss k1 k2 k3 k4 u1 u2 u3 v1 v2 v3 ∧ q = sortL [(k1 : Int), (k2 : Int), (k3 : Int), (k4 : Int)] := by
  obtain ⟨i, j, hi, hj, hp⟩ := qdR_mem.1 hq
  obtain ⟨t, ht, hm, hc, rfl⟩ := qPair_rows hp
  have hjx : j < xss.length := by omega
  have hij : i ≠ j := by omega
  obtain ⟨h1, h2, _⟩ := hT.four hij hi hjx hm ht
  obtain ⟨c, x0, x1, y0, y1, ⟨p0, p1, p2, p3, p4⟩, e1, e2, e3, e4, mx, my, n1, n2, n3, n4, n5, n6, n7, n8, n9, n10⟩ := hT.way hij hi hjx hm ht
  unfold qOne at h1
  unfold qTwo at h2
  rw [e1, e3] at h1
  rw [e2, e4] at h2
  obtain ⟨f, hf, f1, f2, f3, _, _, mf⟩ := hT.look (x := x0) (y := y0) n7 p1 p3
  obtain ⟨f', hf', g1, g2, g3, _, _, mg⟩ := hT.look (x := x1) (y := y1) n10 p2 p4
  have hff : f = f' := by
    have h := of_decide_eq_true hc
    rw [e1, e2, e3, e4, f3, g3] at h
    omega
  subst hff
  have hfc : f ≠ c := fun e => by
    subst e
    have k := hT.same (x := x0) (y := f) (by omega) p1 hf h1 hi ((mf _).2 (.inl rfl)) ((mf _).2 (.inr (.inr rfl))) ((mx _).2 (.inr (.inl rfl))) ((mx _).2 (.inl rfl))
    have h5 := (mf (y0 : Int)).2 (.inr (.inl rfl))
    rw [k] at h5
    have := (mx _).1 h5
    omega
  refine ⟨i, j, ikF xss x0 y0, ikF xss x1 y1, c, x0, x1, f, y1, y0, ⟨⟨hi, hjx, h1, h2⟩, ⟨p0, p1, p2, hf, p4, p3⟩, by omega, mx, fun z => ?_, fun z => ?_, fun z => ?_⟩, ?_⟩
  · rw [my]; exact or_congr_right Or.comm
  · rw [mf]; omega
  · rw [mg]; omega
  · unfold qd qOne qTwo
    rw [e1, e2, e3, e4]
/-- o is the point opposite to x. -/
def OppOk (xss : List (List Int)) (q : List Int) (x o : Int) : Prop :=
  (∀ z : Int, ((∃ k ∈ q, z ∈ row xss k.toNat) ∧ ∀ k ∈ q, ¬ (x ∈ row xss k.toNat ∧ z ∈ row xss k.toNat)) ↔ z = o) ∧ ∀ k ∈ q, (x ∈ row xss k.toNat ∧ o ∉ row xss k.toNat) ∨ (x ∉ row xss k.toNat ∧ o ∈ row xss k.toNat)
theorem four_all {k1 k2 k3 k4 : Nat} {p : Int → Prop} : (∀ k ∈ sortL [(k1 : Int), (k2 : Int), (k3 : Int), (k4 : Int)], p k) ↔ p (k1 : Int) ∧ p (k2 : Int) ∧ p (k3 : Int) ∧ p (k4 : Int) := by
  simp only [sortL_mem]; simp
theorem four_any {k1 k2 k3 k4 : Nat} {p : Int → Prop} : (∃ k ∈ sortL [(k1 : Int), (k2 : Int), (k3 : Int), (k4 : Int)], p k) ↔ p (k1 : Int) ∨ p (k2 : Int) ∨ p (k3 : Int) ∨ p (k4 : Int) := by
  simp only [sortL_mem]; simp
set_option maxHeartbeats 8000000 in
theorem Quad.opp {P : Nat} {xss : List (List Int)} {k1 k2 k3 k4 u1 u2 u3 v1 v2 v3 : Nat} (h : Quad P xss k1 k2 k3 k4 u1 u2 u3 v1 v2 v3) {x o : Nat} (hx : (x = u1 ∧ o = v1) ∨ (x = u2 ∧ o = v2) ∨ (x = u3 ∧ o = v3) ∨ (x = v1 ∧ o = u1) ∨ (x = v2 ∧ o = u2) ∨ (x = v3 ∧ o = u3)) :
    OppOk xss (sortL [(k1 : Int), (k2 : Int), (k3 : Int), (k4 : Int)]) (x : Int) (o : Int) := by
  have e : ∀ k : Nat, ((k : Int)).toNat = k := fun k => rfl
  have hn := h.ne
  refine ⟨fun z => ?_, ?_⟩
  · rw [four_all, four_any]
    simp only [e, h.m1, h.m2, h.m3, h.m4]
    rcases hx with ⟨rfl, rfl⟩ | ⟨rfl, rfl⟩ | ⟨rfl, rfl⟩ | ⟨rfl, rfl⟩ | ⟨rfl, rfl⟩ | ⟨rfl, rfl⟩ <;> omega
  · rw [four_all]
    simp only [e, h.m1, h.m2, h.m3, h.m4]
    rcases hx with ⟨rfl, rfl⟩ | ⟨rfl, rfl⟩ | ⟨rfl, rfl⟩ | ⟨rfl, rfl⟩ | ⟨rfl, rfl⟩ | ⟨rfl, rfl⟩ <;> omega
theorem opp_of {P : Nat} {xss : List (List Int)} (hT : TripSys P xss) {q : List Int} (hq : q ∈ qdR xss) {k : Int} (hk : k ∈ q) {x : Int} (hx : x ∈ row xss k.toNat) : ∃ o : Nat, o < P ∧ OppOk xss q x (o : Int) := by
  obtain ⟨k1, k2, k3, k4, u1, u2, u3, v1, v2, v3, h, rfl⟩ := quad_of hT hq
  have hc : x = (u1 : Int) ∨ x = (u2 : Int) ∨ x = (u3 : Int) ∨ x = (v1 : Int) ∨ x = (v2 : Int) ∨ x = (v3 : Int) := by
    have hkm := sortL_mem.1 hk
    simp only [List.mem_cons, List.not_mem_nil, or_false] at hkm
    rcases hkm with rfl | rfl | rfl | rfl
    · have := (h.m1 x).1 hx; omega
    · have := (h.m2 x).1 hx; omega
    · have := (h.m3 x).1 hx; omega
    · have := (h.m4 x).1 hx; omega
  obtain ⟨p1, p2, p3, p4, p5, p6⟩ := h.ps
  rcases hc with rfl | rfl | rfl | rfl | rfl | rfl
  · exact ⟨v1, p4, h.opp (by omega)⟩
  · exact ⟨v2, p5, h.opp (by omega)⟩
  · exact ⟨v3, p6, h.opp (by omega)⟩
  · exact ⟨u1, p1, h.opp (by omega)⟩
  · exact ⟨u2, p2, h.opp (by omega)⟩
  · exact ⟨u3, p3, h.opp (by omega)⟩
theorem quad_lt {P : Nat} {xss : List (List Int)} (hT : TripSys P xss) {q : List Int} (hq : q ∈ qdR xss) : q.length = 4 ∧ q.Pairwise (· ≤ ·) ∧ ∀ k ∈ q, 0 ≤ k ∧ k < (xss.length : Int) := by
  obtain ⟨k1, k2, k3, k4, u1, u2, u3, v1, v2, v3, h, rfl⟩ := quad_of hT hq
  refine ⟨by rw [sortL_len]; rfl, sortL_le _, ?_⟩
  rw [four_all]
  have := h.ks
  omega
theorem cmpL_head {xs ys : List Int} (h : cmpL xs ys ≤ 0) (hx : 0 < xs.length) (hy : 0 < ys.length) : nth xs 0 ≤ nth ys 0 := by
  rcases xs with _ | ⟨a, l⟩
  · simp at hx
  rcases ys with _ | ⟨b, m⟩
  · simp at hy
  show a ≤ b
  by_cases h1 : a ≤ b
  · exact h1
  · exfalso
    have : cmpL (a :: l) (b :: m) = 1 := by
      show (if a < b then -1 else if b < a then 1 else cmpL l m) = 1
      rw [if_neg (by omega), if_pos (by omega)]
    omega
theorem head_le {xs : List Int} (h : xs.Pairwise (· < ·)) {z : Int} (hz : z ∈ xs) : nth xs 0 ≤ z := by
  obtain ⟨k, hk, rfl⟩ := List.getElem_of_mem hz
  rcases k with _ | k
  · rw [nth_eq hk]; exact Int.le_refl _
  · have := List.pairwise_iff_getElem.1 h 0 (k + 1) (by omega) hk (by omega)
    rw [nth_eq (by omega)]
    omega
/-- The first point of the first block is the least. -/
theorem first_least {P : Nat} {xss : List (List Int)} (hD : DsgOk (P : Int) xss) (hT : TripSys P xss) {q : List Int} (hq : q ∈ qdR xss) {k : Int} (hk : k ∈ q) {z : Int} (hz : z ∈ row xss k.toNat) : nth (row xss (nth q 0).toNat) 0 ≤ z := by
  obtain ⟨h4, hle, hlt⟩ := quad_lt hT hq
  have h0 : nth q 0 ∈ q := by rw [nth_eq (by omega)]; exact List.getElem_mem (by omega)
  have hq0 := hlt _ h0
  have hkk := hlt _ hk
  have hr0 := (setB_iff.1 (hT.rows _ (show (nth q 0).toNat < xss.length by omega))).1
  have hrk := (setB_iff.1 (hT.rows _ (show k.toNat < xss.length by omega))).1
  have hqk : nth q 0 ≤ k := by
    obtain ⟨i, hi, rfl⟩ := List.getElem_of_mem hk
    rcases i with _ | i
    · rw [nth_eq hi]; exact Int.le_refl _
    · have := List.pairwise_iff_getElem.1 hle 0 (i + 1) (by omega) hi (by omega)
      rw [nth_eq (by omega)]
      exact this
  have h2 := head_le hrk hz
  rcases Int.lt_or_eq_of_le hqk with h | h
  · have h3 := (trip_strict hD hT).lt (show (nth q 0).toNat < k.toNat by omega) (by omega)
    have h5 := hT.three _ (show (nth q 0).toNat < xss.length by omega)
    have h6 := hT.three _ (show k.toNat < xss.length by omega)
    have := cmpL_head (by omega : cmpL (row xss (nth q 0).toNat) (row xss k.toNat) ≤ 0) (by omega) (by omega)
    omega
  · rw [h]; exact h2
end Go.Proofs.YtmmkmkbpgcbehaaGreat
