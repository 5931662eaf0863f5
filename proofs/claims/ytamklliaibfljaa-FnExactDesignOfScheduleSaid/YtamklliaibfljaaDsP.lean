/-
  DesignOfSchedule as a plain law: the pairs of a schedule are distinct; their places. No program in sight. Conditions: those of each theorem.
-/
import Derived.Test.YtamklliaibfljaaSchP
import Derived.Test.YtamklliaibfljaaSortM
import Derived.Test.YtamklliaibfljaaMake
import Derived.Test.YtamklliaibfljaaFuncs
namespace Go.Proofs.Ytamklliaibfljaa
open Go.RowKit
set_option linter.unusedVariables false
set_option linter.unusedSimpArgs false

/-- The pairs of the first rounds. -/
def dsL (x : List (List (List Int))) (k : Nat) : List (List Int) := (x.take k).flatten
theorem dsL_zero (x : List (List (List Int))) : dsL x 0 = [] := by simp [dsL]
theorem dsL_succ {x : List (List (List Int))} {k : Nat} (h : k < x.length) : dsL x (k + 1) = dsL x k ++ pln x k := by
  unfold dsL; rw [take_pln h]; simp
theorem dsL_len {x : List (List (List Int))} {k : Nat} (h : k ≤ x.length) : (dsL x k).length = cntR x k := by
  induction k with
  | zero => simp [dsL, cntR]
  | succ k ih => rw [dsL_succ (by omega), List.length_append, ih (by omega), cntR]
def dsB (x : List (List (List Int))) : List (List Int) := sortLL (dsL x x.length)
theorem dsB_perm (x : List (List (List Int))) : (dsB x).Perm (dsL x x.length) := List.mergeSort_perm _ _
theorem pln_row {x : List (List (List Int))} {r : Nat} {q : List Int} : q ∈ pln x r ↔ ∃ i, i < (pln x r).length ∧ pr x r i = q := by
  constructor
  · intro h
    obtain ⟨i, hi, e⟩ := List.getElem_of_mem h
    exact ⟨i, hi, by unfold pr; rw [row_eq hi]; exact e⟩
  · rintro ⟨i, hi, rfl⟩
    unfold pr; rw [row_eq hi]; exact List.getElem_mem _
def mkq (f : Nat → Nat → Int) (q : List Int) : Prop := f (nth q 0).toNat (nth q 1).toNat ≠ 0
theorem mkq_upd {f : Nat → Nat → Int} {a b : Nat} {q : List Int} (h : mkq f q) : mkq (upd f a b 1) q := by
  unfold mkq upd at *
  split
  · omega
  · exact h
theorem take_snoc_pr {x : List (List (List Int))} {r i : Nat} (h : i < (pln x r).length) : (pln x r).take (i + 1) = (pln x r).take i ++ [pr x r i] := by
  unfold pr
  rw [List.take_add_one, List.getElem?_eq_getElem h, row_eq h]; rfl
/-- What has met is marked, and the pairs so far are distinct. -/
theorem ds_in {n : Int} {x : List (List (List Int))} {r k : Nat} {base : List (List Int)} (h : rndOk n x r (pln x r).length) (hk : k ≤ (pln x r).length) (hb : ∀ q ∈ base, mkq (metAll x r) q) (hnd : base.Nodup) :
    (∀ q ∈ base ++ (pln x r).take k, mkq (metIn (metAll x r) x r k) q) ∧ (base ++ (pln x r).take k).Nodup := by
  induction k with
  | zero => simpa [metIn] using ⟨hb, hnd⟩
  | succ k ih =>
    obtain ⟨h1, h2⟩ := ih (by omega)
    rw [take_snoc_pr (by omega), ← List.append_assoc, metIn]
    have hp := h k (by omega)
    refine ⟨fun q hq => ?_, ?_⟩
    · rcases List.mem_append.1 hq with hq | hq
      · exact mkq_upd (h1 q hq)
      · rw [List.mem_singleton.1 hq]
        unfold mkq upd
        rw [if_pos ⟨rfl, rfl⟩]; omega
    · rw [List.nodup_append]
      refine ⟨h2, by simp, fun a ha b hb' e => ?_⟩
      rw [List.mem_singleton.1 hb'] at e
      subst e
      exact h1 _ ha hp.2.2.2.2.2
theorem ds_all {n : Int} {x : List (List (List Int))} (h : rndsOk n x x.length) {k : Nat} (hk : k ≤ x.length) : (∀ q ∈ dsL x k, mkq (metAll x k) q) ∧ (dsL x k).Nodup := by
  induction k with
  | zero => rw [dsL_zero]; exact ⟨fun q hq => absurd hq (by simp), List.nodup_nil⟩
  | succ k ih =>
    obtain ⟨h1, h2⟩ := ih (by omega)
    have := ds_in (h k (by omega)) (Nat.le_refl _) h1 h2
    rw [List.take_length] at this
    rw [dsL_succ (by omega)]
    exact this
section
variable {n : Int} {x : List (List (List Int))}
theorem dsB_nodup (h : rndsOk n x x.length) : (dsB x).Nodup := by rw [(dsB_perm x).nodup_iff]; exact (ds_all h (Nat.le_refl _)).2
theorem dsB_strict (h : rndsOk n x x.length) {a b : Nat} (hab : a < b) (hb : b < (dsB x).length) : cmpL (row (dsB x) a) (row (dsB x) b) < 0 := by
  have h1 := (List.pairwise_iff_getElem.1 (sortLL_pw (dsL x x.length))) a b (by show a < (dsB x).length; omega) hb hab
  have h2 : cmpL (row (dsB x) a) (row (dsB x) b) ≤ 0 := by rw [row_eq (by omega), row_eq hb]; exact h1
  have h3 : cmpL (row (dsB x) a) (row (dsB x) b) ≠ 0 := fun e => by
    have e2 := cmpL_zero e
    rw [row_eq (by omega), row_eq hb] at e2
    have := (List.getElem_inj (dsB_nodup h)).1 e2
    omega
  omega
theorem dsL_mem {r : Nat} {q : List Int} (hr : r < x.length) (hq : q ∈ pln x r) : q ∈ dsL x x.length := by
  unfold dsL
  rw [List.take_length, List.mem_flatten]
  exact ⟨pln x r, by rw [pln_eq hr]; exact List.getElem_mem _, hq⟩
theorem dsB_find {r : Nat} {q : List Int} (hr : r < x.length) (hq : q ∈ pln x r) : ∃ i, i < (dsB x).length ∧ row (dsB x) i = q := by
  obtain ⟨i, hi, e⟩ := List.getElem_of_mem ((dsB_perm x).mem_iff.2 (dsL_mem hr hq))
  exact ⟨i, hi, by rw [row_eq hi]; exact e⟩
/-- A pair's place among the blocks. -/
def dsI (x : List (List (List Int))) (q : List Int) : Int := firstIdx (fun i => decide (row (dsB x) i = q)) (dsB x).length
theorem dsB_inj (h : rndsOk n x x.length) {a b : Nat} (ha : a < (dsB x).length) (hb : b < (dsB x).length) (e : row (dsB x) a = row (dsB x) b) : a = b := by
  rw [row_eq ha, row_eq hb] at e
  exact (List.getElem_inj (dsB_nodup h)).1 e
theorem dsI_eq (h : rndsOk n x x.length) {i : Nat} (hi : i < (dsB x).length) : dsI x (row (dsB x) i) = (i : Int) :=
  firstIdx_hit hi (by simp) fun j hj => by
    rw [decide_eq_false_iff_not]
    intro e
    have := dsB_inj h (by omega) hi e
    omega
/-- The rounds rise. -/
theorem rnd_strict (h : rndsOk n x x.length) {r : Nat} (hr : r < x.length) {i : Nat} (hi : i < (pln x r).length) : ∀ j, j < i → cmpL (pr x r j) (pr x r i) < 0 := by
  induction i with
  | zero => intro j hj; omega
  | succ i ih =>
    intro j hj
    have h1 := (h r hr (i + 1) hi).2.2.1 (by omega)
    rw [show i + 1 - 1 = i by omega] at h1
    by_cases e : j = i
    · subst e; exact h1
    · have h2 := ih (by omega) j (by omega)
      have h3 := cmpL_trans (by omega : cmpL (pr x r j) (pr x r i) ≤ 0) (by omega : cmpL (pr x r i) (pr x r (i + 1)) ≤ 0)
      have h4 : cmpL (pr x r j) (pr x r (i + 1)) ≠ 0 := fun e2 => by
        have e3 := cmpL_zero e2
        rw [e3] at h2
        have := cmpL_neg (pr x r (i + 1)) (pr x r i)
        omega
      omega
/-- The places of a round's pairs. -/
def dsC (x : List (List (List Int))) (r : Nat) : List Int := (pln x r).map (dsI x)
def dsCt (x : List (List (List Int))) (r k : Nat) : List Int := ((pln x r).take k).map (dsI x)
theorem dsCt_succ {r k : Nat} (hk : k < (pln x r).length) : dsCt x r (k + 1) = dsCt x r k ++ [dsI x (pr x r k)] := by unfold dsCt; rw [take_snoc_pr hk]; simp
theorem dsCt_len {r k : Nat} (hk : k ≤ (pln x r).length) : (dsCt x r k).length = k := by unfold dsCt; rw [List.length_map, List.length_take]; omega
theorem dsCt_all (r : Nat) : dsCt x r (pln x r).length = dsC x r := by unfold dsCt dsC; rw [List.take_length]
theorem dsC_rise (h : rndsOk n x x.length) {r : Nat} (hr : r < x.length) : (dsC x r).Pairwise fun a b => a < b := by
  unfold dsC
  rw [List.pairwise_map, List.pairwise_iff_getElem]
  intro a b ha hb hab
  have hs := rnd_strict h hr hb a hab
  unfold pr at hs
  rw [row_eq ha, row_eq hb] at hs
  obtain ⟨i, hi, ei⟩ := dsB_find hr (List.getElem_mem ha)
  obtain ⟨j, hj, ej⟩ := dsB_find hr (List.getElem_mem hb)
  rw [← ei, ← ej, dsI_eq h hi, dsI_eq h hj]
  rw [← ei, ← ej] at hs
  rcases Nat.lt_trichotomy i j with e | e | e
  · omega
  · subst e; rw [cmpL_self] at hs; omega
  · have h9 := dsB_strict h e hi
    have := cmpL_neg (row (dsB x) i) (row (dsB x) j)
    omega
theorem dsC_mem (h : rndsOk n x x.length) {r : Nat} (hr : r < x.length) {z : Int} : z ∈ dsC x r ↔ ∃ j : Nat, z = (j : Int) ∧ j < (dsB x).length ∧ row (dsB x) j ∈ pln x r := by
  unfold dsC
  constructor
  · intro hz
    obtain ⟨q, hq, rfl⟩ := List.mem_map.1 hz
    obtain ⟨i, hi, e⟩ := dsB_find hr hq
    refine ⟨i, ?_, hi, by rw [e]; exact hq⟩
    rw [← e, dsI_eq h hi]
  · rintro ⟨j, rfl, hj, hm⟩
    exact List.mem_map.2 ⟨_, hm, dsI_eq h hj⟩
/-- What the reference has of block j behind i pairs. -/
def dsKi (x : List (List (List Int))) (r j i : Nat) : List Int := ((List.range i).filter fun i => decide (row (dsB x) j = pr x r i)).map fun _ => (j : Int)
def dsK (x : List (List (List Int))) (r k : Nat) : List Int := (List.range k).flatMap fun j => dsKi x r j (pln x r).length
theorem dsKi_hit {r j i : Nat} (h : row (dsB x) j = pr x r i) : dsKi x r j (i + 1) = dsKi x r j i ++ [(j : Int)] := by
  unfold dsKi; rw [List.range_succ, List.filter_append, List.map_append]; congr 1; simp [h]
theorem dsKi_miss {r j i : Nat} (h : row (dsB x) j ≠ pr x r i) : dsKi x r j (i + 1) = dsKi x r j i := by
  unfold dsKi; rw [List.range_succ, List.filter_append]; simp [h]
theorem dsK_succ (r k : Nat) : dsK x r (k + 1) = dsK x r k ++ dsKi x r k (pln x r).length := by simp [dsK, List.range_succ]
theorem dsKi_one (h : rndsOk n x x.length) {r : Nat} (hr : r < x.length) (j : Nat) : ∀ i, i ≤ (pln x r).length → (dsKi x r j i = [] ∧ ∀ k, k < i → row (dsB x) j ≠ pr x r k) ∨ (dsKi x r j i = [(j : Int)] ∧ ∃ k, k < i ∧ row (dsB x) j = pr x r k) := by
  intro i
  induction i with
  | zero => intro _; exact .inl ⟨rfl, fun k hk => by omega⟩
  | succ i ih =>
    intro hi
    rcases ih (by omega) with ⟨e, hno⟩ | ⟨e, k, hk, ek⟩
    · by_cases e2 : row (dsB x) j = pr x r i
      · exact .inr ⟨by rw [dsKi_hit e2, e]; rfl, i, by omega, e2⟩
      · refine .inl ⟨by rw [dsKi_miss e2, e], fun k hk => ?_⟩
        by_cases e3 : k = i
        · subst e3; exact e2
        · exact hno k (by omega)
    · have e2 : row (dsB x) j ≠ pr x r i := fun e2 => by
        have h9 := rnd_strict h hr (i := i) (by omega) k hk
        rw [← ek, e2, cmpL_self] at h9; omega
      exact .inr ⟨by rw [dsKi_miss e2, e], k, by omega, ek⟩
theorem dsKi_mem (h : rndsOk n x x.length) {r : Nat} (hr : r < x.length) (j : Nat) {z : Int} : z ∈ dsKi x r j (pln x r).length ↔ z = (j : Int) ∧ row (dsB x) j ∈ pln x r := by
  rcases dsKi_one h hr j _ (Nat.le_refl _) with ⟨e, hno⟩ | ⟨e, k, hk, ek⟩
  · rw [e]
    constructor
    · intro hz; exact absurd hz (by simp)
    · rintro ⟨_, hm⟩
      obtain ⟨i, hi, e2⟩ := pln_row.1 hm
      exact absurd e2.symm (hno i hi)
  · rw [e, List.mem_singleton]
    exact ⟨fun hz => ⟨hz, by rw [ek]; exact pln_row.2 ⟨k, hk, rfl⟩⟩, fun hz => hz.1⟩
theorem dsK_rise (h : rndsOk n x x.length) {r : Nat} (hr : r < x.length) (k : Nat) : (dsK x r k).Pairwise fun a b => a < b := by
  induction k with
  | zero => simp [dsK]
  | succ k ih =>
    rw [dsK_succ, List.pairwise_append]
    refine ⟨ih, ?_, fun a ha b hb => ?_⟩
    · rcases dsKi_one h hr k _ (Nat.le_refl _) with ⟨e, _⟩ | ⟨e, _⟩
      · rw [e]; exact List.Pairwise.nil
      · rw [e]; exact List.pairwise_singleton _ _
    · obtain ⟨j, hj, hz⟩ := List.mem_flatMap.1 ha
      have h1 := ((dsKi_mem h hr j).1 hz).1
      have h2 := ((dsKi_mem h hr k).1 hb).1
      have := List.mem_range.1 hj
      omega
theorem dsK_mem (h : rndsOk n x x.length) {r : Nat} (hr : r < x.length) {k : Nat} {z : Int} : z ∈ dsK x r k ↔ ∃ j : Nat, z = (j : Int) ∧ j < k ∧ row (dsB x) j ∈ pln x r := by
  unfold dsK
  rw [List.mem_flatMap]
  constructor
  · rintro ⟨j, hj, hz⟩
    obtain ⟨h1, h2⟩ := (dsKi_mem h hr j).1 hz
    exact ⟨j, h1, List.mem_range.1 hj, h2⟩
  · rintro ⟨j, h1, hj, h2⟩
    exact ⟨j, List.mem_range.2 hj, (dsKi_mem h hr j).2 ⟨h1, h2⟩⟩
theorem rise_eq {us vs : List Int} (ha : us.Pairwise fun a b => a < b) (hb : vs.Pairwise fun a b => a < b) (h : ∀ z, z ∈ us ↔ z ∈ vs) : us = vs := by
  have hp : us.Perm vs := (List.perm_ext_iff_of_nodup (ha.imp fun h => by omega) (hb.imp fun h => by omega)).2 h
  exact List.Perm.eq_of_pairwise (fun a b _ _ h1 h2 => by omega) ha hb hp
theorem dsK_all (h : rndsOk n x x.length) {r : Nat} (hr : r < x.length) : dsK x r (dsB x).length = dsC x r :=
  rise_eq (dsK_rise h hr _) (dsC_rise h hr) fun z => (dsK_mem h hr).trans (dsC_mem h hr).symm
end
def dsT (x : List (List (List Int))) (k : Nat) : List (List Int) := (List.range k).map (dsC x)
theorem dsT_succ (x : List (List (List Int))) (k : Nat) : dsT x (k + 1) = dsT x k ++ [dsC x k] := by simp [dsT, List.range_succ]
theorem dsT_len (x : List (List (List Int))) (k : Nat) : (dsT x k).length = k := by simp [dsT]
theorem dsT_tot (x : List (List (List Int))) (k : Nat) : tot (dsT x k) = cntR x k := by
  induction k with
  | zero => simp [dsT, tot, cntR]
  | succ k ih => rw [dsT_succ, tot_append, ih, tot_one, cntR]; unfold dsC; rw [List.length_map]
def dsO (n : Int) (x : List (List (List Int))) : Int := if schB n x = true then (if (dsL x x.length).length ≤ 128 then 0 else 5) else 1
def dsX (n : Int) (x : List (List (List Int))) : List (List Int) := if dsO n x = 0 then dsB x else []
def dsP (n : Int) (x : List (List (List Int))) : Int := if dsO n x = 0 then n else 0
def dsM (n : Int) (x : List (List (List Int))) : List (List Int) := if dsO n x = 0 then dsT x x.length else []
theorem ds_facts {n : Int} {x : List (List (List Int))} (h : dsO n x = 0) : schB n x = true ∧ (dsL x x.length).length ≤ 128 := by
  unfold dsO at h
  split at h
  · next h1 =>
    split at h
    · next h2 => exact ⟨h1, h2⟩
    · omega
  · omega
theorem ds_two {n : Int} {x : List (List (List Int))} (h : rndsOk n x x.length) {q : List Int} (hq : q ∈ dsL x x.length) : q.length = 2 := by
  unfold dsL at hq
  rw [List.take_length, List.mem_flatten] at hq
  obtain ⟨p, hp, hq⟩ := hq
  obtain ⟨r, hr, e⟩ := List.getElem_of_mem hp
  rw [← pln_eq hr] at e
  rw [← e] at hq
  obtain ⟨i, hi, e2⟩ := pln_row.1 hq
  rw [← e2]
  exact (h r hr i hi).1
theorem tot_const {xss : List (List Int)} {c : Nat} (h : ∀ r ∈ xss, r.length = c) : tot xss = xss.length * c := by
  induction xss with
  | nil => simp [tot]
  | cons a xss ih =>
    have h1 := ih fun r hr => h r (List.mem_cons_of_mem _ hr)
    have h2 := h a (List.mem_cons_self ..)
    simp [tot] at *
    rw [h1, h2, Nat.succ_mul]; omega
theorem DesignOfSchedule_small (n : Int) (x : List (List (List Int))) (hx : x.length ≤ 1048576) : ((dsX n x).length ≤ 1048576 ∧ tot (dsX n x) ≤ 1048576) ∧ (dsM n x).length ≤ 1048576 ∧ tot (dsM n x) ≤ 1048576 := by
  by_cases h : dsO n x = 0
  · obtain ⟨h1, h2⟩ := ds_facts h
    have hs : schOk n x := of_decide_eq_true h1
    unfold dsX dsM
    rw [if_pos h, if_pos h]
    have hl := (dsB_perm x).length_eq
    have ht : tot (dsB x) = (dsB x).length * 2 := tot_const fun r hr => ds_two hs.2.1 ((dsB_perm x).mem_iff.1 hr)
    rw [dsT_len, dsT_tot, ← dsL_len (Nat.le_refl _)]
    omega
  · unfold dsX dsM
    rw [if_neg h, if_neg h]; simp [tot]
end Go.Proofs.Ytamklliaibfljaa
