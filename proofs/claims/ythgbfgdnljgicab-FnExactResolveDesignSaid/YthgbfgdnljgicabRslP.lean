/-
  A search for a resolution: what it answers. Conditions: those of each theorem.
-/
import Derived.Test.YthgbfgdnljgicabClass
import Derived.Test.YthgbfgdnljgicabSort
namespace Go.Proofs.Ythgbfgdnljgicab
open Go.RowKit
set_option linter.unusedVariables false
set_option linter.unusedSimpArgs false

/-- The points of a class, one block behind the other. -/
def ptC (xss : List (List Int)) (cls : List Int) : List Int := cls.flatMap fun i => row xss i.toNat
theorem ptC_nil (xss : List (List Int)) : ptC xss [] = [] := rfl
theorem ptC_snoc (xss : List (List Int)) (cls : List Int) (k : Nat) : ptC xss (cls ++ [(k : Int)]) = ptC xss cls ++ row xss k := by simp [ptC]
/-- The blocks in use. -/
def rsU (done : List (List Int)) (cls : List Int) : List Int := done.flatten ++ cls
theorem rsU_snoc (done : List (List Int)) (cls : List Int) (k : Int) : rsU done (cls ++ [k]) = rsU done cls ++ [k] := by simp [rsU]
theorem rsU_one (done : List (List Int)) (k : Int) : rsU done [k] = rsU done [] ++ [k] := by simp [rsU]
theorem rsU_close (done : List (List Int)) (cls : List Int) : rsU (done ++ [cls]) [] = rsU done cls := by simp [rsU]
/-- The first of n that a list lacks, or -1. -/
def gapI (n : Nat) (U : List Int) : Int := firstIdx (idxF (covV n U) false) n
theorem firstIdx_or (p : Nat → Bool) (n : Nat) : firstIdx p n = -1 ∧ (∀ j, j < n → p j = false) ∨ ∃ k, k < n ∧ firstIdx p n = (k : Int) ∧ p k = true := by
  unfold firstIdx
  rcases h : (List.range n).find? p with _ | k
  · left
    refine ⟨rfl, fun j hj => ?_⟩
    have := List.find?_eq_none.1 h j (List.mem_range.2 hj)
    simpa using this
  · right
    exact ⟨k, List.mem_range.1 (List.mem_of_find?_eq_some h), rfl, List.find?_some h⟩
theorem gapI_or (n : Nat) (U : List Int) : gapI n U = -1 ∨ ∃ k : Nat, k < n ∧ gapI n U = (k : Int) ∧ (k : Int) ∉ U := by
  rcases firstIdx_or (idxF (covV n U) false) n with ⟨h, _⟩ | ⟨k, hk, h, hp⟩
  · exact .inl h
  · refine .inr ⟨k, hk, h, fun hm => ?_⟩
    have h1 := of_decide_eq_true hp
    rw [covV_flag hk, hasB_true.2 hm] at h1
    cases h1
/-- Block k can be the next one of a class that does not cover p yet. -/
def fitK (xss : List (List Int)) (done : List (List Int)) (cls : List Int) (p : Int) (k : Nat) : Bool :=
  !(hasB (rsU done cls) (k : Int)) && (hasB (row xss k) p && !((row xss k).any fun x => hasB (ptC xss cls) x))
inductive Fnd where
  | yes (cs : List (List Int))
  | no (left : Nat)
  | full
def scanF (g : Nat → Nat → Fnd) (fit : Nat → Bool) : Nat → Nat → Nat → Fnd
  | 0, _, left => .no left
  | m + 1, k, left =>
    if fit k = true then (if left = 0 then .full else match g k (left - 1) with
      | .no l => scanF g fit m (k + 1) l
      | .yes cs => .yes cs
      | .full => .full)
    else scanF g fit m (k + 1) left
def srch (xss : List (List Int)) (P : Nat) : Nat → List (List Int) → List Int → Nat → Fnd
  | 0, _, _, _ => .full
  | f + 1, done, cls, left =>
    if cls = [] then
      (if gapI xss.length (rsU done []) < 0 then .yes done else if left = 0 then .full else srch xss P f done [gapI xss.length (rsU done [])] (left - 1))
    else
      (if gapI P (ptC xss cls) < 0 then srch xss P f (done ++ [cls]) [] left
      else scanF (fun k l => srch xss P f done (cls ++ [(k : Int)]) l) (fitK xss done cls (gapI P (ptC xss cls))) xss.length 0 left)
structure RsOk (xss : List (List Int)) (done : List (List Int)) (cls : List Int) : Prop where
  nod : (rsU done cls).Nodup
  lt : ∀ k ∈ rsU done cls, 0 ≤ k ∧ k < (xss.length : Int)
  dis : (ptC xss cls).Nodup
  ne : ∀ c ∈ done, c ≠ []
theorem rsOk_start (xss : List (List Int)) : RsOk xss [] [] := ⟨by simp [rsU], by simp [rsU], by simp [ptC], by simp⟩
theorem RsOk.len {xss : List (List Int)} {done : List (List Int)} {cls : List Int} (h : RsOk xss done cls) : (rsU done cls).length ≤ xss.length := by
  rw [nodup_count h.nod h.lt]
  have := List.length_filter_le (fun i => hasB (rsU done cls) ((i : Nat) : Int)) (List.range xss.length)
  simpa using this
theorem nodupR {L : List Int} {k : Int} (h : L.Nodup) (hk : k ∉ L) : (L ++ [k]).Nodup := by
  rw [List.nodup_append]
  refine ⟨h, by simp, fun a ha b hb => ?_⟩
  rw [List.mem_singleton] at hb
  subst hb
  exact fun e => hk (e ▸ ha)
def rowsNodup (xss : List (List Int)) : Prop := ∀ k, k < xss.length → (row xss k).Nodup
theorem dsg_rowsNodup {p : Int} {xss : List (List Int)} (h : DsgOk p xss) : rowsNodup xss := fun k hk => by
  have h1 := (setB_iff.1 (blockB_set (h.2.2 k hk).1)).1
  exact List.Pairwise.imp (fun h => by omega) h1
def rsM (xss : List (List Int)) (done : List (List Int)) (cls : List Int) : Nat := 2 * (xss.length - (rsU done cls).length) + (if cls = [] then 0 else 1)
theorem RsOk.begin_ {xss : List (List Int)} {done : List (List Int)} (hr : rowsNodup xss) (h : RsOk xss done []) {k : Nat} (hk : k < xss.length) (hu : (k : Int) ∉ rsU done []) : RsOk xss done [(k : Int)] ∧ rsM xss done [(k : Int)] < rsM xss done [] := by
  have h1 : RsOk xss done [(k : Int)] := by
    refine ⟨by rw [rsU_one]; exact nodupR h.nod hu, ?_, ?_, h.ne⟩
    · rw [rsU_one]
      intro j hj
      rcases List.mem_append.1 hj with hj | hj
      · exact h.lt j hj
      · rw [List.mem_singleton] at hj; subst hj; omega
    · have := hr k hk
      simpa [ptC] using this
  refine ⟨h1, ?_⟩
  have := h1.len
  unfold rsM
  rw [rsU_one, List.length_append] at *
  simp at *
  omega
theorem fitK_true {xss : List (List Int)} {done : List (List Int)} {cls : List Int} {p : Int} {k : Nat} : fitK xss done cls p k = true ↔ (k : Int) ∉ rsU done cls ∧ p ∈ row xss k ∧ ∀ x ∈ row xss k, x ∉ ptC xss cls := by
  unfold fitK
  rw [Bool.and_eq_true, Bool.and_eq_true, Bool.not_eq_true', Bool.not_eq_true', hasB_true]
  constructor
  · rintro ⟨h1, h2, h3⟩
    refine ⟨(fun h => by rw [hasB_true.2 h] at h1; cases h1), h2, fun x hx hm => ?_⟩
    rw [List.any_eq_false] at h3
    exact h3 x hx (hasB_true.2 hm)
  · rintro ⟨h1, h2, h3⟩
    refine ⟨?_, h2, ?_⟩
    · rcases h : hasB (rsU done cls) (k : Int) with _ | _
      · rfl
      · exact absurd (hasB_true.1 h) h1
    · rw [List.any_eq_false]
      intro x hx h
      exact h3 x hx (hasB_true.1 h)
theorem RsOk.more {xss : List (List Int)} {done : List (List Int)} {cls : List Int} (hr : rowsNodup xss) (h : RsOk xss done cls) (hc : cls ≠ []) {p : Int} {k : Nat} (hk : k < xss.length) (hf : fitK xss done cls p k = true) : RsOk xss done (cls ++ [(k : Int)]) ∧ rsM xss done (cls ++ [(k : Int)]) < rsM xss done cls := by
  obtain ⟨hu, _, hd⟩ := fitK_true.1 hf
  have h1 : RsOk xss done (cls ++ [(k : Int)]) := by
    refine ⟨by rw [rsU_snoc]; exact nodupR h.nod hu, ?_, ?_, h.ne⟩
    · rw [rsU_snoc]
      intro j hj
      rcases List.mem_append.1 hj with hj | hj
      · exact h.lt j hj
      · rw [List.mem_singleton] at hj; subst hj; omega
    · rw [ptC_snoc, List.nodup_append]
      exact ⟨h.dis, hr k hk, fun a ha b hb e => hd b hb (e ▸ ha)⟩
  refine ⟨h1, ?_⟩
  have := h1.len
  unfold rsM
  rw [rsU_snoc, List.length_append] at *
  simp [hc] at *
  omega
theorem RsOk.close {xss : List (List Int)} {done : List (List Int)} {cls : List Int} (h : RsOk xss done cls) (hc : cls ≠ []) : RsOk xss (done ++ [cls]) [] ∧ rsM xss (done ++ [cls]) [] < rsM xss done cls := by
  refine ⟨⟨by rw [rsU_close]; exact h.nod, by rw [rsU_close]; exact h.lt, by simp [ptC], fun c hm => ?_⟩, ?_⟩
  · rcases List.mem_append.1 hm with hm | hm
    · exact h.ne c hm
    · rw [List.mem_singleton] at hm; subst hm; exact hc
  · unfold rsM
    rw [rsU_close]
    simp [hc]
theorem scanF_yes {g : Nat → Nat → Fnd} {fit : Nat → Bool} {cs : List (List Int)} : ∀ (m k left : Nat), scanF g fit m k left = .yes cs → ∃ k' l', k ≤ k' ∧ k' < k + m ∧ fit k' = true ∧ g k' l' = .yes cs
  | 0, k, left, h => by cases h
  | m + 1, k, left, h => by
    unfold scanF at h
    by_cases hf : fit k = true
    · rw [if_pos hf] at h
      by_cases hl : left = 0
      · rw [if_pos hl] at h; cases h
      · rw [if_neg hl] at h
        rcases hg : g k (left - 1) with cs' | l | _
        · rw [hg] at h
          exact ⟨k, left - 1, by omega, by omega, hf, by rw [hg]; exact h⟩
        · rw [hg] at h
          obtain ⟨k', l', h1, h2, h3⟩ := scanF_yes m (k + 1) l h
          exact ⟨k', l', by omega, by omega, h3⟩
        · rw [hg] at h; cases h
    · rw [if_neg hf] at h
      obtain ⟨k', l', h1, h2, h3⟩ := scanF_yes m (k + 1) left h
      exact ⟨k', l', by omega, by omega, h3⟩
theorem srch_yes {xss : List (List Int)} {P : Nat} (hr : rowsNodup xss) {cs : List (List Int)} : ∀ (f : Nat) (done : List (List Int)) (cls : List Int) (left : Nat), RsOk xss done cls → srch xss P f done cls left = .yes cs → RsOk xss cs []
  | 0, _, _, _, _, h => by cases h
  | f + 1, done, cls, left, hok, h => by
    unfold srch at h
    by_cases hc : cls = []
    · subst hc
      rw [if_pos rfl] at h
      rcases gapI_or xss.length (rsU done []) with hg | ⟨k, hk, hg, hu⟩
      · rw [if_pos (by omega)] at h
        injection h with h
        subst h
        exact hok
      · rw [if_neg (by omega)] at h
        by_cases hl : left = 0
        · rw [if_pos hl] at h; cases h
        · rw [if_neg hl, hg] at h
          exact srch_yes hr f _ _ _ (hok.begin_ hr hk hu).1 h
    · rw [if_neg hc] at h
      by_cases hg : gapI P (ptC xss cls) < 0
      · rw [if_pos hg] at h
        exact srch_yes hr f _ _ _ (hok.close hc).1 h
      · rw [if_neg hg] at h
        obtain ⟨k, l, _, hk, hf, h2⟩ := scanF_yes _ _ _ h
        exact srch_yes hr f _ _ _ (hok.more hr hc (by omega) hf).1 h2
theorem scanF_le {g : Nat → Nat → Fnd} {fit : Nat → Bool} (hg : ∀ k l l', g k l = .no l' → l' ≤ l) : ∀ (m k left l : Nat), scanF g fit m k left = .no l → l ≤ left
  | 0, k, left, l, h => by unfold scanF at h; injection h with h; omega
  | m + 1, k, left, l, h => by
    unfold scanF at h
    by_cases hf : fit k = true
    · rw [if_pos hf] at h
      by_cases hl : left = 0
      · rw [if_pos hl] at h; cases h
      · rw [if_neg hl] at h
        rcases hk : g k (left - 1) with cs' | l' | _
        · rw [hk] at h; cases h
        · rw [hk] at h
          have h1 := hg _ _ _ hk
          have h2 := scanF_le hg m (k + 1) l' l h
          omega
        · rw [hk] at h; cases h
    · rw [if_neg hf] at h
      exact scanF_le hg m (k + 1) left l h
theorem srch_le {xss : List (List Int)} {P : Nat} : ∀ (f : Nat) (done : List (List Int)) (cls : List Int) (left l : Nat), srch xss P f done cls left = .no l → l ≤ left
  | 0, _, _, _, _, h => by cases h
  | f + 1, done, cls, left, l, h => by
    unfold srch at h
    by_cases hc : cls = []
    · rw [if_pos hc] at h
      by_cases hg : gapI xss.length (rsU done []) < 0
      · rw [if_pos hg] at h; cases h
      · rw [if_neg hg] at h
        by_cases hl : left = 0
        · rw [if_pos hl] at h; cases h
        · rw [if_neg hl] at h
          have := srch_le f _ _ _ _ h
          omega
    · rw [if_neg hc] at h
      by_cases hg : gapI P (ptC xss cls) < 0
      · rw [if_pos hg] at h
        exact srch_le f _ _ _ _ h
      · rw [if_neg hg] at h
        exact scanF_le (fun k l l' h => srch_le f _ _ _ _ h) _ _ _ _ h
theorem srch_b1 {xss : List (List Int)} {P f left : Nat} {done : List (List Int)} (h : gapI xss.length (rsU done []) < 0) : srch xss P (f + 1) done [] left = .yes done := by
  unfold srch; rw [if_pos rfl, if_pos h]
theorem srch_b2 {xss : List (List Int)} {P f : Nat} {done : List (List Int)} (h : ¬ gapI xss.length (rsU done []) < 0) : srch xss P (f + 1) done [] 0 = .full := by
  unfold srch; rw [if_pos rfl, if_neg h, if_pos rfl]
theorem srch_b3 {xss : List (List Int)} {P f l : Nat} {done : List (List Int)} {k : Nat} (h : gapI xss.length (rsU done []) = (k : Int)) : srch xss P (f + 1) done [] (l + 1) = srch xss P f done [(k : Int)] l := by
  conv => lhs; unfold srch
  rw [if_pos rfl, h, if_neg (by omega), if_neg (by omega), Nat.add_sub_cancel]
theorem srch_e1 {xss : List (List Int)} {P f left : Nat} {done : List (List Int)} {cls : List Int} (hc : cls ≠ []) (h : gapI P (ptC xss cls) < 0) : srch xss P (f + 1) done cls left = srch xss P f (done ++ [cls]) [] left := by
  conv => lhs; unfold srch
  rw [if_neg hc, if_pos h]
theorem srch_e2 {xss : List (List Int)} {P f left : Nat} {done : List (List Int)} {cls : List Int} (hc : cls ≠ []) (h : ¬ gapI P (ptC xss cls) < 0) : srch xss P (f + 1) done cls left = scanF (fun k l => srch xss P f done (cls ++ [(k : Int)]) l) (fitK xss done cls (gapI P (ptC xss cls))) xss.length 0 left := by
  conv => lhs; unfold srch
  rw [if_neg hc, if_neg h]
theorem scanF_miss {g : Nat → Nat → Fnd} {fit : Nat → Bool} {m k left : Nat} (h : fit k = false) : scanF g fit (m + 1) k left = scanF g fit m (k + 1) left := by
  conv => lhs; unfold scanF
  rw [if_neg (by rw [h]; simp)]
theorem scanF_zero {g : Nat → Nat → Fnd} {fit : Nat → Bool} {m k : Nat} (h : fit k = true) : scanF g fit (m + 1) k 0 = .full := by
  unfold scanF
  rw [if_pos h, if_pos rfl]
theorem scanF_yes_ {g : Nat → Nat → Fnd} {fit : Nat → Bool} {m k l : Nat} {cs : List (List Int)} (h : fit k = true) (hg : g k l = .yes cs) : scanF g fit (m + 1) k (l + 1) = .yes cs := by
  unfold scanF
  rw [if_pos h, if_neg (by omega), Nat.add_sub_cancel, hg]
theorem scanF_no_ {g : Nat → Nat → Fnd} {fit : Nat → Bool} {m k l l' : Nat} (h : fit k = true) (hg : g k l = .no l') : scanF g fit (m + 1) k (l + 1) = scanF g fit m (k + 1) l' := by
  conv => lhs; unfold scanF
  rw [if_pos h, if_neg (by omega), Nat.add_sub_cancel, hg]
theorem scanF_full_ {g : Nat → Nat → Fnd} {fit : Nat → Bool} {m k l : Nat} (h : fit k = true) (hg : g k l = .full) : scanF g fit (m + 1) k (l + 1) = .full := by
  unfold scanF
  rw [if_pos h, if_neg (by omega), Nat.add_sub_cancel, hg]
/-- The budget. -/
def bdB (b : Int) : Bool := decide (1 ≤ b ∧ b ≤ 20000)
def rsF (p : Int) (xss : List (List Int)) (b : Int) : Fnd := srch xss p.toNat (2 * xss.length + 1) [] [] b.toNat
def rsC (p : Int) (xss : List (List Int)) (b : Int) : Int := if dsgB p xss = true then (if bdB b = true then (match rsF p xss b with | .yes _ => 0 | .no _ => 3 | .full => 5) else 2) else 1
def rsX (p : Int) (xss : List (List Int)) (b : Int) : List (List Int) := if dsgB p xss = true then (if bdB b = true then (match rsF p xss b with | .yes cs => cs.map sortL | .no _ => [] | .full => []) else []) else []
theorem tot_sorted (cs : List (List Int)) : tot (cs.map sortL) = cs.flatten.length := by
  unfold tot
  rw [List.map_map, List.length_flatten]
  congr 1
  apply List.map_congr_left
  intro c _
  exact sortL_len c
theorem flat_ge : ∀ {cs : List (List Int)}, (∀ c ∈ cs, c ≠ []) → cs.length ≤ cs.flatten.length
  | [], _ => by simp
  | c :: cs, h => by
    have h1 := flat_ge (cs := cs) (fun d hd => h d (List.mem_cons_of_mem _ hd))
    have h2 : 1 ≤ c.length := by
      have := h c (List.mem_cons_self ..)
      rcases c with _ | _
      · exact absurd rfl this
      · simp
    simp only [List.length_cons, List.flatten_cons, List.length_append]
    omega
theorem RsOk.small {xss : List (List Int)} {cs : List (List Int)} (h : RsOk xss cs []) : cs.length ≤ xss.length ∧ cs.flatten.length ≤ xss.length := by
  have h1 := h.len
  have h2 := flat_ge h.ne
  rw [show rsU cs [] = cs.flatten by simp [rsU]] at h1
  omega
theorem ResolveDesign_small (p : Int) (xss : List (List Int)) (b : Int) : (rsX p xss b).length ≤ 1048576 ∧ tot (rsX p xss b) ≤ 1048576 := by
  unfold rsX
  split
  · rename_i hd
    have hD := dsgB_true.1 hd
    have hn : xss.length ≤ 128 := by have := hD.2.1; omega
    split
    · rcases hf : rsF p xss b with cs | l | _
      · have h1 := (srch_yes (dsg_rowsNodup hD) _ _ _ _ (rsOk_start xss) hf).small
        simp only
        rw [tot_sorted, List.length_map]
        omega
      · simp [tot_nil]
      · simp [tot_nil]
    · simp [tot_nil]
  · simp [tot_nil]

/-- Flags: one is taken out. -/
theorem covV_unset {P : Nat} {L R : List Int} {k : Nat} (h : k < P) (h1 : (k : Int) ∉ L) (h2 : (k : Int) ∉ R) : (covV P (L ++ (k : Int) :: R)).set k false = covV P (L ++ R) := by
  apply List.ext_getElem
  · simp [covV]
  · intro j hj1 hj2
    have hj : j < P := by simpa [covV] using hj2
    rw [List.getElem_set]
    by_cases e : k = j
    · subst e
      rw [if_pos rfl]
      simp only [covV, List.getElem_map, List.getElem_range]
      symm
      rcases hh : hasB (L ++ R) (k : Int) with _ | _
      · rfl
      · rcases List.mem_append.1 (hasB_true.1 hh) with h | h
        · exact absurd h h1
        · exact absurd h h2
    · rw [if_neg e]
      simp only [covV, List.getElem_map, List.getElem_range]
      rw [Bool.eq_iff_iff, hasB_true, hasB_true]
      simp only [List.mem_append, List.mem_cons]
      constructor
      · rintro (h | h | h)
        · exact .inl h
        · exact absurd h (by omega)
        · exact .inr h
      · rintro (h | h)
        · exact .inl h
        · exact .inr (.inr h)
theorem covV_perm {P : Nat} {L R : List Int} (h : ∀ z, z ∈ L ↔ z ∈ R) : covV P L = covV P R := by
  unfold covV
  apply List.map_congr_left
  intro k _
  rw [Bool.eq_iff_iff, hasB_true, hasB_true, h]
theorem put_sorted {xs : List Int} {v : Int} (hd : xs.Nodup) (hv : v ∉ xs) : putL (sortL xs) v = sortL (xs ++ [v]) := by
  have h1 : (putL (sortL xs) v).Pairwise (· < ·) := putL_rise (sortL_rise hd)
  have h2 : (sortL (xs ++ [v])).Pairwise (· < ·) := sortL_rise (nodupR hd hv)
  exact rise_ext h1 h2 (fun z => by rw [putL_mem, sortL_mem, sortL_mem, List.mem_append, List.mem_singleton, or_comm])
end Go.Proofs.Ythgbfgdnljgicab
