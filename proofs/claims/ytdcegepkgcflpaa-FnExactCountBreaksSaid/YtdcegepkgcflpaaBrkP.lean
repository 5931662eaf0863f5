/-
  CountBreaks as a plain law: where the teams of a round play. No program in sight. Conditions: those of each theorem.
-/
import Derived.Test.YtdcegepkgcflpaaSchS
import Derived.Test.YtdcegepkgcflpaaHas
namespace Go.Proofs.Ytdcegepkgcflpaa
open Go.RowKit
set_option linter.unusedVariables false
set_option linter.unusedSimpArgs false

theorem quiet_p {f : FuncId} {args : Array Value} {w : World} {n : Nat} {v : Value} (h : Calls Try.prog f args (w.drewN n) fun e w' => e = .returned v ∧ w.drewN n = w') :
    Calls Try.prog f args (w.drewN n) fun e w' => e = .returned v ∧ ∃ m, w' = w.drewN m :=
  h.mono fun _ _ ⟨he, hm⟩ => ⟨he, n, hm.symm⟩
/-- 1 at home, -1 away, 0 nowhere: what the reference finds. -/
def plQ (rd : List (List Int)) (h : List Int) (t : Int) (i : Nat) : Bool := decide (nth h i = t) || hasB (row rd i) t
def plF (rd : List (List Int)) (h : List Int) (t : Int) : Int := if firstIdx (plQ rd h t) rd.length < 0 then 0 else if nth h (firstIdx (plQ rd h t) rd.length).toNat = t then 1 else -1
theorem plF_none {rd : List (List Int)} {h : List Int} {t : Int} (hq : ∀ i, i < rd.length → plQ rd h t i = false) : plF rd h t = 0 := by
  unfold plF
  rw [firstIdx_miss hq]
  rfl
theorem plF_some {rd : List (List Int)} {h : List Int} {t : Int} {i : Nat} (hi : i < rd.length) (h1 : plQ rd h t i = true) (hq : ∀ j, j < i → plQ rd h t j = false) : plF rd h t = if nth h i = t then 1 else -1 := by
  unfold plF
  rw [firstIdx_hit hi h1 hq, if_neg (by omega)]
  rfl
/-- The program's table behind k pairs. -/
def pcF (rd : List (List Int)) (h : List Int) : Nat → Int → Int
  | 0, _ => 0
  | k + 1, t => if nth h k = t then 1 else if hasB (row rd k) t = true then -1 else pcF rd h k t
def piF (rd : List (List Int)) (h : List Int) (k j : Nat) (t : Int) : Int := if hasB ((row rd k).take j) t = true then -1 else pcF rd h k t
def tbL (f : Int → Int) (n : Nat) : List Int := (List.range n).map fun (x : Nat) => f (x : Int)
theorem tbL_len (f : Int → Int) (n : Nat) : (tbL f n).length = n := by simp [tbL]
theorem tbL_nth {f : Int → Int} {n x : Nat} (hx : x < n) : nth (tbL f n) x = f (x : Int) := by simp [nth, tbL, hx]
theorem tbL_set {f g : Int → Int} {n x : Nat} {v : Int} (h1 : g (x : Int) = v) (h2 : ∀ y : Nat, y ≠ x → g (y : Int) = f (y : Int)) : (tbL f n).set x v = tbL g n := by
  apply List.ext_getElem
  · simp [tbL]
  · intro i a b
    rw [List.getElem_set]
    simp only [tbL, List.getElem_map, List.getElem_range]
    by_cases e : x = i
    · subst e; rw [if_pos rfl, h1]
    · rw [if_neg e, h2 i (fun e' => e e'.symm)]
theorem tbL_zero (rd : List (List Int)) (h : List Int) (n : Nat) : tbL (pcF rd h 0) n = List.replicate n 0 := by
  apply List.ext_getElem
  · simp [tbL]
  · intro i a b; simp [tbL, pcF]
theorem tbL_start (rd : List (List Int)) (h : List Int) (k n : Nat) : tbL (piF rd h k 0) n = tbL (pcF rd h k) n := by
  unfold tbL
  exact List.map_congr_left fun x _ => by unfold piF; simp [hasB]
theorem take_step {xs : List Int} {j : Nat} (hj : j < xs.length) : xs.take (j + 1) = xs.take j ++ [nth xs j] := by
  rw [List.take_add_one, List.getElem?_eq_getElem hj, nth_eq hj]; rfl
theorem piF_step {rd : List (List Int)} {h : List Int} {k j n x : Nat} (hj : j < (row rd k).length) (hx : nth (row rd k) j = (x : Int)) : (tbL (piF rd h k j) n).set x (-1) = tbL (piF rd h k (j + 1)) n := by
  refine tbL_set ?_ fun y hy => ?_
  · unfold piF
    rw [take_step hj, hx]
    simp [hasB]
  · unfold piF
    rw [take_step hj, hx]
    have : hasB ((row rd k).take j ++ [(x : Int)]) (y : Int) = hasB ((row rd k).take j) (y : Int) := by
      unfold hasB
      refine decide_eq_decide.2 ?_
      rw [List.mem_append, List.mem_singleton]
      constructor
      · rintro (h | h)
        · exact h
        · omega
      · exact .inl
    rw [this]
theorem pcF_step {rd : List (List Int)} {h : List Int} {k n x : Nat} (hx : nth h k = (x : Int)) : (tbL (piF rd h k (row rd k).length) n).set x 1 = tbL (pcF rd h (k + 1)) n := by
  refine tbL_set ?_ fun y hy => ?_
  · rw [pcF, if_pos hx]
  · rw [pcF, if_neg (by rw [hx]; omega)]
    unfold piF
    rw [List.take_length]
/-- What makes a round fit its homes. -/
structure Fits (rd : List (List Int)) (h : List Int) : Prop where
  len : h.length = rd.length
  home : ∀ i, i < rd.length → nth h i ∈ row rd i
  apart : ∀ i j, i < j → j < rd.length → ∀ t, t ∈ row rd i → t ∉ row rd j
theorem pcF_in {rd : List (List Int)} {h : List Int} (hf : Fits rd h) {k : Nat} (hk : k ≤ rd.length) {t : Int} {i : Nat} (hi : i < k) (ht : t ∈ row rd i) : pcF rd h k t = if nth h i = t then 1 else -1 := by
  induction k with
  | zero => omega
  | succ k ih =>
    rw [pcF]
    by_cases e : i = k
    · subst e
      by_cases e1 : nth h i = t
      · rw [if_pos e1, if_pos e1]
      · rw [if_neg e1, if_neg e1, if_pos (hasB_true.2 ht)]
    · have hik : i < k := by omega
      have hno : t ∉ row rd k := hf.apart i k hik (by omega) t ht
      rw [if_neg (fun e1 : nth h k = t => hno (by rw [← e1]; exact hf.home k (by omega))), hasB_false.2 hno]
      exact ih (by omega) hik
theorem pcF_out {rd : List (List Int)} {h : List Int} (hf : Fits rd h) {k : Nat} (hk : k ≤ rd.length) {t : Int} (ht : ∀ i, i < k → t ∉ row rd i) : pcF rd h k t = 0 := by
  induction k with
  | zero => rfl
  | succ k ih =>
    have hno := ht k (by omega)
    rw [pcF, if_neg (fun e1 : nth h k = t => hno (by rw [← e1]; exact hf.home k (by omega))), hasB_false.2 hno]
    exact ih (by omega) fun i hi => ht i (by omega)
theorem plQ_iff {rd : List (List Int)} {h : List Int} (hf : Fits rd h) {t : Int} {i : Nat} (hi : i < rd.length) : plQ rd h t i = true ↔ t ∈ row rd i := by
  unfold plQ
  rw [Bool.or_eq_true, decide_eq_true_eq, hasB_true]
  constructor
  · rintro (e | e)
    · exact e ▸ hf.home i hi
    · exact e
  · exact .inr
theorem places_plays {rd : List (List Int)} {h : List Int} (hf : Fits rd h) (t : Int) : pcF rd h rd.length t = plF rd h t := by
  by_cases hh : ∃ i, i < rd.length ∧ t ∈ row rd i
  · obtain ⟨i, hi, ht⟩ := hh
    have hfirst : ∀ j, j < i → plQ rd h t j = false := fun j hj => by
      rcases e : plQ rd h t j with _ | _
      · rfl
      · exact absurd ht (hf.apart j i hj hi t ((plQ_iff hf (by omega)).1 e))
    rw [pcF_in hf (Nat.le_refl _) hi ht, plF_some hi ((plQ_iff hf hi).2 ht) hfirst]
  · have hno : ∀ i, i < rd.length → t ∉ row rd i := fun i hi ht => hh ⟨i, hi, ht⟩
    rw [pcF_out hf (Nat.le_refl _) hno, plF_none fun i hi => by
      rcases e : plQ rd h t i with _ | _
      · rfl
      · exact absurd ((plQ_iff hf hi).1 e) (hno i hi)]
theorem plF_vals (rd : List (List Int)) (h : List Int) (t : Int) : plF rd h t = -1 ∨ plF rd h t = 0 ∨ plF rd h t = 1 := by
  unfold plF
  split
  · exact .inr (.inl rfl)
  · split
    · exact .inr (.inr rfl)
    · exact .inl rfl
/-! ### Sums -/
def smN (g : Nat → Nat) : Nat → Nat
  | 0 => 0
  | k + 1 => smN g k + g k
theorem smN_add (f g : Nat → Nat) (k : Nat) : smN (fun i => f i + g i) k = smN f k + smN g k := by
  induction k with
  | zero => rfl
  | succ k ih => simp only [smN, ih]; omega
theorem smN_zero (k : Nat) : smN (fun _ => 0) k = 0 := by
  induction k with
  | zero => rfl
  | succ k ih => simp only [smN, ih]
theorem smN_swap (f : Nat → Nat → Nat) (a b : Nat) : smN (fun t => smN (fun r => f r t) a) b = smN (fun r => smN (fun t => f r t) b) a := by
  induction a with
  | zero => simp only [smN]; exact smN_zero b
  | succ a ih =>
    simp only [smN]
    rw [smN_add, ih]
theorem smN_le {g : Nat → Nat} {k c : Nat} (h : ∀ i, g i ≤ c) : smN g k ≤ k * c := by
  induction k with
  | zero => simp [smN]
  | succ k ih => have := h k; rw [smN, Nat.succ_mul]; omega
/-- Team t breaks behind round r. -/
def bkB (x : List (List (List Int))) (ys : List (List Int)) (r : Nat) (t : Nat) : Nat :=
  if plF (pln x r) (row ys r) (t : Int) ≠ 0 ∧ plF (pln x r) (row ys r) (t : Int) = plF (pln x (r + 1)) (row ys (r + 1)) (t : Int) then 1 else 0
theorem bkB_le (x : List (List (List Int))) (ys : List (List Int)) (r t : Nat) : bkB x ys r t ≤ 1 := by unfold bkB; split <;> omega
def hmOk (x : List (List (List Int))) (ys : List (List Int)) (R : Nat) : Prop := ∀ r, r < R → (row ys r).length = (pln x r).length ∧ ∀ i, i < (pln x r).length → hasB (row (pln x r) i) (nth (row ys r) i) = true
instance (x : List (List (List Int))) (ys : List (List Int)) (R : Nat) : Decidable (hmOk x ys R) := by unfold hmOk; infer_instance
def hmB (x : List (List (List Int))) (ys : List (List Int)) : Bool := decide (ys.length = x.length ∧ hmOk x ys x.length)
def brC (n : Int) (x : List (List (List Int))) (ys : List (List Int)) : Int := if schB n x = true then (if hmB x ys = true then 0 else 2) else 1
def brN (x : List (List (List Int))) (ys : List (List Int)) (n : Nat) : Nat := smN (fun r => smN (fun t => bkB x ys r t) n) (x.length - 1)
def brV (n : Int) (x : List (List (List Int))) (ys : List (List Int)) : Int := if brC n x ys = 0 then (brN x ys n.toNat : Int) else 0
theorem bsy_in {x : List (List (List Int))} {r k t i : Nat} (hi : i < k) (h : t = pA x r i ∨ t = pB x r i) : bsy x r k t = true := by
  induction k with
  | zero => omega
  | succ k ih =>
    rw [bsy, Bool.or_eq_true]
    by_cases e : i = k
    · subst e
      right
      rcases h with h | h <;> simp [h]
    · exact .inl (ih (by omega))
theorem pair_mem {n : Int} {x : List (List (List Int))} {r i : Nat} (hok : pairOk n x r i) {t : Int} (ht : t ∈ row (pln x r) i) : (0 ≤ t ∧ t < n) ∧ (t.toNat = pA x r i ∨ t.toNat = pB x r i) := by
  obtain ⟨j, hj, e⟩ := mem_nth.1 ht
  have hl : (row (pln x r) i).length = 2 := hok.1
  have hb := hok.2.1
  unfold pr at hb
  rcases Nat.lt_or_ge j 1 with h | h
  · obtain rfl : j = 0 := by omega
    exact ⟨by omega, .inl (by unfold pA pr; rw [e])⟩
  · obtain rfl : j = 1 := by omega
    exact ⟨by omega, .inr (by unfold pB pr; rw [e])⟩
theorem fits_of {n : Int} {x : List (List (List Int))} {ys : List (List Int)} {R r : Nat} (hs : schOk n x) (hh : hmOk x ys R) (hr : r < R) (hrx : r < x.length) : Fits (pln x r) (row ys r) := by
  refine ⟨(hh r hr).1, fun i hi => hasB_true.1 ((hh r hr).2 i hi), fun i j hij hj t h1 h2 => ?_⟩
  have hi := hs.2.1 r hrx i (by omega)
  have hj' := hs.2.1 r hrx j hj
  have a := pair_mem hi h1
  have b := pair_mem hj' h2
  have hb := bsy_in (x := x) (r := r) (k := j) (t := t.toNat) hij a.2
  rcases b.2 with e | e
  · rw [e, hj'.2.2.2.1] at hb; cases hb
  · rw [e, hj'.2.2.2.2.1] at hb; cases hb
end Go.Proofs.Ytdcegepkgcflpaa
