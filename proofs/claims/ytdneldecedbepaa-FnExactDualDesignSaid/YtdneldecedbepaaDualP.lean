/-
  DualDesign as a plain law; a row of a matrix that is put anew. No program in sight. Conditions: those of each theorem.
-/
import Derived.Test.YtdneldecedbepaaCompP
namespace Go.Proofs.Ytdneldecedbepaa
open Go.RowKit
set_option linter.unusedVariables false
set_option linter.unusedSimpArgs false

/-- The numbers below k of the blocks that hold a. -/
def duTo (xss : List (List Int)) (a : Int) (k : Nat) : List Int := ((List.range k).filter (fun i => hasB (row xss i) a)).map fun (i : Nat) => (i : Int)
theorem duTo_succ (xss : List (List Int)) (a : Int) (k : Nat) : duTo xss a (k + 1) = duTo xss a k ++ if hasB (row xss k) a = true then [(k : Int)] else [] := by
  unfold duTo
  rw [List.range_succ, List.filter_append, List.map_append]
  by_cases h : hasB (row xss k) a = true <;> simp [List.filter_cons, h]
theorem duTo_len (xss : List (List Int)) (a : Int) (k : Nat) : (duTo xss a k).length ≤ k := by
  unfold duTo
  have := List.length_filter_le (fun i => hasB (row xss i) a) (List.range k)
  rw [List.length_map]
  rw [List.length_range] at this
  exact this
theorem duTo_rise (xss : List (List Int)) (a : Int) (k : Nat) : (duTo xss a k).Pairwise (· < ·) := by
  unfold duTo
  rw [List.pairwise_map]
  refine List.Pairwise.filter _ ?_
  refine List.Pairwise.imp ?_ List.pairwise_lt_range
  intro a b h
  omega
theorem duTo_mem {xss : List (List Int)} {a : Int} {k : Nat} {z : Int} (h : z ∈ duTo xss a k) : 0 ≤ z ∧ z < (k : Int) := by
  unfold duTo at h
  obtain ⟨y, hy, rfl⟩ := List.mem_map.1 h
  have := List.mem_range.1 (List.mem_filter.1 hy).1
  omega
theorem duTo_block {xss : List (List Int)} {a : Int} {k : Nat} (h1 : k ≤ 32) (h2 : ¬ (duTo xss a k).length = 0) : blockB (duTo xss a k) (k : Int) = true := by
  unfold blockB
  rw [Bool.and_eq_true, decide_eq_true_eq]
  exact ⟨by omega, setB_iff.2 ⟨duTo_rise _ _ _, fun z hz => duTo_mem hz, by omega, by omega⟩⟩
/-- The first a rows of the dual. -/
def duR (xss : List (List Int)) (n a : Nat) : List (List Int) := (List.range a).map fun (x : Nat) => duTo xss (x : Int) n
theorem duR_succ (xss : List (List Int)) (n a : Nat) : duR xss n (a + 1) = duR xss n a ++ [duTo xss (a : Int) n] := by simp [duR, List.range_succ]
theorem duR_len (xss : List (List Int)) (n a : Nat) : (duR xss n a).length = a := by simp [duR]
theorem duR_row {xss : List (List Int)} {n a x : Nat} (h : x < a) : row (duR xss n a) x = duTo xss (x : Int) n := by simp [row, duR, h]
/-- The table as the program fills it: k blocks whole, j points of the next. -/
def duM (xss : List (List Int)) (P k j : Nat) : List (List Int) := (List.range P).map fun (x : Nat) => duTo xss (x : Int) k ++ if hasB ((row xss k).take j) (x : Int) = true then [(k : Int)] else []
theorem duM_len (xss : List (List Int)) (P k j : Nat) : (duM xss P k j).length = P := by simp [duM]
theorem duM_row {xss : List (List Int)} {P k j x : Nat} (h : x < P) : row (duM xss P k j) x = duTo xss (x : Int) k ++ if hasB ((row xss k).take j) (x : Int) = true then [(k : Int)] else [] := by
  rw [row_eq (by rw [duM_len]; exact h)]
  simp only [duM, List.getElem_map, List.getElem_range]
theorem duM_zero (xss : List (List Int)) (P : Nat) : duM xss P 0 0 = List.replicate P [] := by
  apply List.ext_getElem
  · simp [duM]
  · intro i h1 h2
    simp [duM, duTo, hasB]
theorem duM_next (xss : List (List Int)) (P k : Nat) : duM xss P k (row xss k).length = duM xss P (k + 1) 0 := by
  apply List.ext_getElem
  · simp [duM]
  · intro i h1 h2
    simp only [duM, List.getElem_map, List.getElem_range, List.take_length, List.take_zero]
    rw [duTo_succ]
    simp [hasB]
theorem duM_full (xss : List (List Int)) (P n : Nat) : duM xss P n 0 = duR xss n P := by
  apply List.ext_getElem
  · simp [duM, duR]
  · intro i h1 h2
    simp [duM, duR, hasB]
theorem hasB_snoc (xs : List Int) (y x : Int) : hasB (xs ++ [y]) x = (hasB xs x || decide (x = y)) := by
  by_cases h1 : x ∈ xs <;> by_cases h2 : x = y <;> simp [hasB, h1, h2]
theorem take_snoc {xs : List Int} {j : Nat} (hj : j < xs.length) : xs.take (j + 1) = xs.take j ++ [nth xs j] := by
  rw [List.take_add_one, List.getElem?_eq_getElem hj, nth_eq hj]; rfl
theorem rise_new {xs : List Int} (h : xs.Pairwise (· < ·)) {j : Nat} (hj : j < xs.length) : hasB (xs.take j) (nth xs j) = false := by
  rw [hasB_false, mem_nth]
  rintro ⟨i, hi, e⟩
  rw [List.length_take] at hi
  have h1 : nth (xs.take j) i = nth xs i := by simp [nth, show i < j by omega]
  rw [h1] at e
  have h2 : nth xs i < nth xs j := by
    rw [nth_eq hj, nth_eq (show i < xs.length by omega)]
    exact List.pairwise_iff_getElem.1 h i j (by omega) hj (by omega)
  omega
theorem duM_put {xss : List (List Int)} {P k j x : Nat} (hr : (row xss k).Pairwise (· < ·)) (hj : j < (row xss k).length) (hx : nth (row xss k) j = (x : Int)) (hP : x < P) :
    (duM xss P k j).set x (row (duM xss P k j) x ++ [(k : Int)]) = duM xss P k (j + 1) := by
  have hno : hasB ((row xss k).take j) (x : Int) = false := by rw [← hx]; exact rise_new hr hj
  have hrw : row (duM xss P k j) x = duTo xss (x : Int) k := by rw [duM_row hP, hno]; simp
  rw [hrw]
  apply List.ext_getElem
  · simp [duM]
  · intro i h1 h2
    rw [List.getElem_set]
    have hi : i < P := by simpa [duM] using h2
    simp only [duM, List.getElem_map, List.getElem_range]
    rw [take_snoc hj, hasB_snoc, hx]
    by_cases e : x = i
    · subst e
      rw [if_pos rfl, hno]
      simp
    · rw [if_neg e]
      have h3 : decide ((i : Int) = (x : Int)) = false := decide_eq_false (by omega)
      rw [h3, Bool.or_false]
def duBad (xss : List (List Int)) (P : Nat) : Prop := ∃ x, x < P ∧ (duTo xss (x : Int) xss.length).length = 0
instance (xss : List (List Int)) (P : Nat) : Decidable (duBad xss P) := by unfold duBad; infer_instance
def duC (p : Int) (xss : List (List Int)) : Int := if dsgB p xss = true then (if inB (xss.length : Int) 1 32 = true then (if duBad xss p.toNat then 6 else 0) else 2) else 1
def duP (p : Int) (xss : List (List Int)) : Int := if duC p xss = 0 then (xss.length : Int) else 0
def duX (p : Int) (xss : List (List Int)) : List (List Int) := if duC p xss = 0 then sortLL (duR xss xss.length p.toNat) else []
theorem duC_zero {p : Int} {xss : List (List Int)} (h : duC p xss = 0) : dsgB p xss = true ∧ (1 ≤ xss.length ∧ xss.length ≤ 32) ∧ ¬ duBad xss p.toNat := by
  unfold duC at h
  split at h
  · next h1 =>
    split at h
    · next h2 =>
      have := inB_true.1 h2
      split at h
      · omega
      · next h3 => exact ⟨h1, by omega, h3⟩
    · omega
  · omega
theorem DualDesign_small (p : Int) (xss : List (List Int)) : (duX p xss).length ≤ 1048576 ∧ tot (duX p xss) ≤ 1048576 := by
  unfold duX
  split
  · next h =>
    obtain ⟨h1, h2, h3⟩ := duC_zero h
    have hD := dsgB_true.1 h1
    have hl : (duR xss xss.length p.toNat).length ≤ 128 := by rw [duR_len]; have := hD.1.2; omega
    have := mk_small (xss := duR xss xss.length p.toNat) fun r hr => by
      unfold duR at hr
      obtain ⟨a, ha, rfl⟩ := List.mem_map.1 hr
      have := duTo_len xss (a : Int) xss.length
      omega
    unfold mkL at this
    rwa [if_pos hl] at this
  · simp [tot]

/-- A row put anew where the step before turned that row's block alone. -/
theorem OwnM.put_row {w w' : World} {lo : Nat} {g c : Nat} {R : Spine} {xss : List (List Int)} (h : OwnM w lo (some ⟨g, 0, none⟩) c R xss) {i : Nat} (hi : i < xss.length) {Ay : Option Addr} {cy : Nat} {ys : List Int}
    (hg : w.grownBy w' (blk (R i).1)) (hr : OwnI w' lo Ay cy ys) (hb : blk Ay = blk (R i).1 ∨ blk Ay = some w.heap.size) :
    OwnM (w'.setCell ⟨g, i, none⟩ (.slice Ay ys.length cy)) lo (some ⟨g, 0, none⟩) c (putS R i Ay cy) (xss.set i ys) := by
  have hrow : ∀ k, k < xss.length → row (xss.set i ys) k = if k = i then ys else row xss k := by
    intro k hk
    by_cases e : k = i
    · subst e; simp [row, hk]
    · rw [if_neg e]; simp [row, List.getElem?_set_ne (fun e' => e e'.symm)]
  have hne_i : ∀ k, k < xss.length → k ≠ i → ∀ g', (R k).1 = some ⟨g', 0, none⟩ → blk (R i).1 ≠ some g' := by
    intro k hk e g' eg
    rcases (h.rows i hi).form with ⟨e2, _⟩ | ⟨g2, e2, _⟩
    · rw [e2]; simp [blk]
    · rw [e2, blk_some]
      rintro ⟨⟩
      rcases Nat.lt_or_gt_of_ne e with hlt | hlt
      · exact h.apart k i hlt hi g' eg e2
      · exact h.apart i k hlt hk g' e2 eg
  have hown' : w'.ownsRow lo 37 1 (.slice (some ⟨g, 0, none⟩) xss.length c) xss.length ((List.range xss.length).map fun k => .slice (R k).1 (row xss k).length (R k).2) := by
    refine ⟨h.own.1, ?_⟩
    rcases h.own.2 with hn | ⟨g0, cap, cur, e, hlo, hh, r⟩
    · exact .inl hn
    · refine .inr ⟨g0, cap, cur, e, hlo, ?_, r⟩
      rw [hg.block g0 (Array.getElem?_eq_some_iff.1 hh).1 ?_]
      · exact hh
      · injection e with e1 _ _
        have := h.outer_ne hi e1
        rcases (h.rows i hi).form with ⟨e2, _⟩ | ⟨g', e2, _⟩
        · rw [e2]; simp [blk]
        · rw [e2] at this ⊢
          simp only [blk_some, ne_eq, Option.some.injEq]
          rintro rfl
          exact this rfl
  have hrows' : ∀ k, k < xss.length → k ≠ i → OwnI w' lo (R k).1 (R k).2 (row xss k) := fun k hk e => (h.rows k hk).grown hg fun g' eg => hne_i k hk e g' eg
  have hap : ∀ k, k < xss.length → k ≠ i → ∀ g', (R k).1 = some ⟨g', 0, none⟩ → Ay ≠ some ⟨g', 0, none⟩ := by
    intro k hk e g' eg eA
    rw [eA, blk_some] at hb
    rcases hb with hb | hb
    · exact hne_i k hk e g' eg hb.symm
    · have := ((h.rows k hk).lt eg).2
      injection hb with hb
      omega
  obtain ⟨hs1, hs2⟩ := World.ownsRow.stored hown' i (.slice Ay ys.length cy)
  have hne : ∀ {A0 : Option Addr} {c0 : Nat} {zs : List Int}, OwnI w' lo A0 c0 zs → OwnI (w'.setCell ⟨g, i, none⟩ (.slice Ay ys.length cy)) lo A0 c0 zs := by
    intro A0 c0 zs h0
    refine h0.grown hs2 fun g' e => ?_
    rcases h0.2 with ⟨e1, _⟩ | ⟨g1, c1, cur1, e1, _, hh1, _⟩
    · rw [e] at e1; simp at e1
    rcases hown'.2 with ⟨e2, _⟩ | ⟨g2, c2, cur2, e2, _, hh2, _⟩
    · simp at e2
    rw [e] at e1
    simp only [Value.slice.injEq, Option.some.injEq, Addr.mk.injEq, and_true] at e1 e2
    obtain ⟨rfl, _⟩ := e1
    obtain ⟨rfl, _⟩ := e2
    rintro ⟨⟩
    rw [hh1] at hh2
    simp at hh2
  refine ⟨?_, fun k hk => ?_, fun a b hab hb g' e => ?_⟩
  · rw [List.length_set]
    have e : ((List.range xss.length).map fun k => Value.slice (putS R i Ay cy k).1 (row (xss.set i ys) k).length (putS R i Ay cy k).2) =
        ((List.range xss.length).map fun k => Value.slice (R k).1 (row xss k).length (R k).2).set i (.slice Ay ys.length cy) := by
      apply List.ext_getElem
      · simp
      · intro k h1 h2
        simp only [List.length_map, List.length_range] at h1
        rw [List.getElem_set]
        simp only [List.getElem_map, List.getElem_range, putS]
        rw [hrow k h1]
        by_cases e : k = i
        · subst e; simp
        · rw [if_neg e, if_neg e, if_neg (fun e' => e e'.symm)]
    rw [e]
    exact hs1
  · rw [List.length_set] at hk
    rw [hrow k hk]
    simp only [putS]
    by_cases e : k = i
    · rw [if_pos e, if_pos e]; exact hne hr
    · rw [if_neg e, if_neg e]; exact hne (hrows' k hk e)
  · rw [List.length_set] at hb
    simp only [putS] at e ⊢
    by_cases ea : a = i
    · rw [if_pos ea] at e
      rw [if_neg (by omega)]
      intro e'
      exact hap b hb (by omega) g' e' e
    · rw [if_neg ea] at e
      by_cases eb : b = i
      · rw [if_pos eb]; exact hap a (by omega) ea g' e
      · rw [if_neg eb]; exact h.apart a b hab hb g' e
end Go.Proofs.Ytdneldecedbepaa
