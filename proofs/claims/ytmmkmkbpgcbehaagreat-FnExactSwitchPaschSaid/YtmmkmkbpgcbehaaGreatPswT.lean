/-
  A quadrilateral is switched: what the reference puts together. Conditions: those of each theorem.
-/
import Derived.Test.YtmmkmkbpgcbehaaGreatPswR
import Derived.Test.YtmmkmkbpgcbehaaGreatSumA
namespace Go.Proofs.YtmmkmkbpgcbehaaGreat
open Go.RowKit
set_option linter.unusedVariables false
set_option linter.unusedSimpArgs false

/-- A point apart from x in the first j blocks. -/
def apTo (xss : List (List Int)) (q : List Int) (x z : Int) (j : Nat) : Bool := decide (z ≠ x) && (List.range j).all fun t => !(hasB (qRw xss q t) x && hasB (qRw xss q t) z)
theorem apTo_zero (xss : List (List Int)) (q : List Int) (x z : Int) : apTo xss q x z 0 = decide (z ≠ x) := by simp [apTo]
theorem apTo_succ (xss : List (List Int)) (q : List Int) (x z : Int) (j : Nat) : apTo xss q x z (j + 1) = (apTo xss q x z j && !(hasB (qRw xss q j) x && hasB (qRw xss q j) z)) := by
  unfold apTo
  rw [List.range_succ, List.all_append]
  simp [Bool.and_assoc]
def lastT (xss : List (List Int)) (q : List Int) (x : Int) (L : List Int) : Nat → Int
  | 0 => -1
  | i + 1 => if apTo xss q x (nth L i) 4 = true then nth L i else lastT xss q x L i
theorem last_all {P : Nat} {xss : List (List Int)} (hT : TripSys P xss) {q : List Int} (hq : q ∈ qdR xss) {x o : Int} (hO : OppOk xss q x o) (hne : o ≠ x) : lastT xss q x (allT xss q 4) (allT xss q 4).length = o := by
  obtain ⟨h4, _, _⟩ := quad_lt hT hq
  obtain ⟨_, a2⟩ := allT_set hT hq 4 (by omega)
  have hap : ∀ z, z ∈ allT xss q 4 → (apTo xss q x z 4 = true ↔ z = o) := fun z hz => by
    rw [← hO.1 z, any_row h4]
    unfold apTo
    rw [Bool.and_eq_true, decide_eq_true_eq, List.all_eq_true]
    constructor
    · rintro ⟨_, h⟩
      refine ⟨(a2 z).1 hz, fun k hk => ?_⟩
      obtain ⟨j, hj, rfl⟩ := List.getElem_of_mem hk
      have := h j (List.mem_range.2 (by omega))
      rintro ⟨h1, h2⟩
      unfold qRw at this
      rw [nth_eq hj, hasB_true.2 h1, hasB_true.2 h2] at this
      cases this
    · rintro ⟨h1, h2⟩
      have hzo : z = o := (hO.1 z).1 ⟨(any_row h4).2 h1, h2⟩
      refine ⟨by rw [hzo]; exact hne, fun j hj => ?_⟩
      have hj4 := List.mem_range.1 hj
      have := h2 (nth q j) (by rw [nth_eq (by omega)]; exact List.getElem_mem (by omega))
      rw [Bool.not_eq_true', Bool.and_eq_false_iff, hasB_false, hasB_false]
      unfold qRw
      by_cases e : x ∈ row xss (nth q j).toNat
      · exact .inr fun h => this ⟨e, h⟩
      · exact .inl e
  have hoA : o ∈ allT xss q 4 := (a2 o).2 ((any_row h4).1 ((hO.1 o).2 rfl).1)
  generalize allT xss q 4 = L at *
  have main : ∀ i, i ≤ L.length → (o ∈ L.take i → lastT xss q x L i = o) := fun i => by
    induction i with
    | zero => intro _ h; simp at h
    | succ i ih =>
      intro hi h
      have hz : nth L i ∈ L := by rw [nth_eq (by omega)]; exact List.getElem_mem (by omega)
      unfold lastT
      by_cases e : nth L i = o
      · rw [if_pos ((hap _ hz).2 e), e]
      · rw [if_neg (fun h' => e ((hap _ hz).1 h'))]
        refine ih (by omega) ?_
        rw [take_nth (by omega), List.mem_append, List.mem_singleton] at h
        rcases h with h | h
        · exact h
        · exact absurd h.symm e
  exact main L.length (Nat.le_refl _) (by rw [List.take_length]; exact hoA)
/-- The block as the reference puts it together. -/
theorem rf_row {P : Nat} {xss : List (List Int)} (hP : P ≤ 32) (hT : TripSys P xss) {q : List Int} {x o : Int} (hO : OppOk xss q x o) (hx : 0 ≤ x) (hxo : x < o) (ho : o < (P : Int)) (hF : spF xss q = x) (hOo : spO xss q = o) {k : Nat} (hk : k < xss.length) (hh : hasB q (k : Int) = true) :
    (hasB (row xss k) x = true → spRow P xss q k = putL (minusL (row xss k) [x, o]) o) ∧ (hasB (row xss k) x = false → spRow P xss q k = putL (minusL (row xss k) [x, o]) x) := by
  have hb := hT.rows k hk
  obtain ⟨h1, h2⟩ := im_put hP hx hxo ho hb
  have h3 := hO.2 (k : Int) (hasB_true.1 hh)
  rw [show ((k : Int)).toNat = k from rfl] at h3
  unfold spRow
  rw [if_pos hh, hF, hOo]
  constructor
  · intro h
    have hm := hasB_true.1 h
    rcases h3 with h3 | h3
    · exact h1 h3.1 h3.2
    · exact absurd hm h3.1
  · intro h
    have hm := hasB_false.1 h
    rcases h3 with h3 | h3
    · exact absurd h3.1 hm
    · exact h2 h3.1 h3.2
theorem spL_take {P : Nat} {xss : List (List Int)} {q : List Int} {i : Nat} (hi : i < xss.length) : (spL P xss q).take (i + 1) = (spL P xss q).take i ++ [spRow P xss q i] := by
  rw [take_row (by rw [spL_len]; exact hi)]
  congr 2
  rw [row_eq (by rw [spL_len]; exact hi)]
  simp [spL]
theorem spRow_pos {P : Nat} {xss : List (List Int)} (hT : TripSys P xss) {q : List Int} {k : Nat} (hk : k < xss.length) : 0 < (spRow P xss q k).length := by
  have h3 := hT.three k hk
  unfold spRow
  split
  · exact imL_pos (by omega)
  · omega

theorem valsM_join (R S : Spine) (xss yss : List (List Int)) : valsM R xss ++ valsM S yss = valsM (joinS R S xss.length) (xss ++ yss) := by
  apply List.ext_getElem
  · simp [valsM_len]
  · intro k h1 h2
    have h2' : k < (xss ++ yss).length := by rw [valsM_len] at h2; exact h2
    have e2 := valsM_get (R := joinS R S xss.length) h2'
    rw [List.getElem?_eq_getElem h2] at e2
    injection e2 with e2
    rw [e2]
    have hrow : row (xss ++ yss) k = if k < xss.length then row xss k else row yss (k - xss.length) := by
      by_cases h : k < xss.length
      · rw [if_pos h]; simp [row, List.getElem?_append_left h]
      · rw [if_neg h]; simp [row, List.getElem?_append_right (Nat.le_of_not_lt h)]
    rw [hrow]
    unfold joinS
    by_cases h : k < xss.length
    · rw [if_pos h, if_pos h, List.getElem_append_left (by rw [valsM_len]; exact h)]
      have e1 := valsM_get (R := R) h
      rw [List.getElem?_eq_getElem (by rw [valsM_len]; exact h)] at e1
      injection e1
    · rw [List.length_append] at h2'
      rw [if_neg h, if_neg h, List.getElem_append_right (by rw [valsM_len]; omega)]
      have e1 := valsM_get (R := S) (xss := yss) (k := k - xss.length) (by omega)
      rw [List.getElem?_eq_getElem (by rw [valsM_len]; omega)] at e1
      injection e1 with e1
      simp only [valsM_len]
      exact e1
/-- A list of rows: its cells the call's own, its rows the call's own or such as lay there before. -/
structure LsR (w0 wr : World) (A : Option Addr) (c : Nat) (S : Spine) (L : List (List Int)) : Prop where
  own : wr.ownsRow w0.heap.size 35 1 (.slice A L.length c) L.length (valsM S L)
  rows : ∀ k, k < L.length → RdI w0 (S k).1 (S k).2 (row L k) ∨ OwnI wr w0.heap.size (S k).1 (S k).2 (row L k)
  bl : Below w0.heap.size w0 wr
theorem LsR.rds {w0 wr : World} {A : Option Addr} {c : Nat} {S : Spine} {L : List (List Int)} (h : LsR w0 wr A c S L) : ∀ k, k < L.length → RdI wr (S k).1 (S k).2 (row L k) := fun k hk => by
  rcases h.rows k hk with h1 | h1
  · exact h1.below h.bl
  · exact h1.rd
theorem LsR.rd {w0 wr : World} {A : Option Addr} {c : Nat} {S : Spine} {L : List (List Int)} (h : LsR w0 wr A c S L) : RdM wr A c S L := by
  rcases h.own.2 with ⟨e, h0⟩ | ⟨g, cap, cur, e, hg, hh, hc, hm, _, _⟩
  · injection e with e1 e2 e3
    subst e1 e3
    exact ⟨by omega, by unfold maxLen; omega, fun k hk => absurd hk (by omega), h.rds⟩
  · injection e with e1 e2 e3
    subst e1 e3
    refine ⟨hc, hm, fun k hk => ⟨g, 0, rfl, (Array.getElem?_eq_some_iff.1 hh).1, ?_⟩, h.rds⟩
    rw [Nat.zero_add, World.ownsRow.cellAt h.own k (by omega), valsM_get hk]
theorem LsR.below {w0 wr w' : World} {A : Option Addr} {c : Nat} {S : Spine} {L : List (List Int)} (h : LsR w0 wr A c S L) (hb : Below wr.heap.size wr w') : LsR w0 w' A c S L :=
  ⟨ownsV_below h.own hb, fun k hk => (h.rows k hk).imp id (fun h1 => h1.below hb), h.bl.trans (hb.mono h.bl.size)⟩
theorem LsR.grow {w0 wr w' : World} {A A' : Option Addr} {c c' : Nat} {S : Spine} {L : List (List Int)} {Ay : Option Addr} {cy : Nat} {y : List Int} (h : LsR w0 wr A c S L) (hg : wr.grownBy w' (blk A)) (ho : w'.ownsRow w0.heap.size 35 1 (.slice A' (L.length + 1) c') (L.length + 1) (valsM S L ++ valsM (fun _ => (Ay, cy)) [y]))
    (hy : RdI w0 Ay cy y ∨ OwnI wr w0.heap.size Ay cy y) : LsR w0 w' A' c' (joinS S (fun _ => (Ay, cy)) L.length) (L ++ [y]) := by
  refine ⟨?_, fun k hk => ?_, h.bl.trans (below_blkV h.own hg (Nat.le_refl _) h.bl.size)⟩
  · rw [← valsM_join, List.length_append]
    exact ho
  · rw [List.length_append] at hk
    unfold joinS
    by_cases e : k < L.length
    · rw [if_pos e, show row (L ++ [y]) k = row L k by simp [row, List.getElem?_append_left e]]
      exact (h.rows k e).imp id (fun h1 => OwnI.other_type h.own hg h1)
    · rw [if_neg e, show row (L ++ [y]) k = y by
        obtain rfl : k = L.length := by simp at hk; omega
        simp [row]]
      exact hy.imp id (fun h1 => OwnI.other_type h.own hg h1)
end Go.Proofs.YtmmkmkbpgcbehaaGreat
