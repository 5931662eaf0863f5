/-
  The parallel classes of an affine plane, in plain Lean: how they grow, that a block joins at most one class. Conditions: those of each theorem.
-/
import Derived.Test.YtamklliaibfljaaInc
import Derived.Test.YtamklliaibfljaaThirdP
namespace Go.Proofs.Ytamklliaibfljaa
set_option linter.unusedVariables false
set_option linter.unusedSimpArgs false

def lnB (xss : List (List Int)) (j x : Nat) : Bool := hasB (row xss j) (x : Int)
theorem sg_mem {P : Nat} : ∀ (s : List Int), s.Nodup → (∀ z ∈ s, 0 ≤ z ∧ z < (P : Int)) → sg (fun x => bn (hasB s (x : Int))) P = s.length
  | [], _, _ => sg_none fun x _ => bn_f (by simp [hasB])
  | a :: s, hn, hb => by
    have hn' := List.nodup_cons.1 hn
    have ha := hb a (List.mem_cons_self ..)
    rw [List.length_cons, ← sg_mem s hn'.2 fun z hz => hb z (List.mem_cons_of_mem _ hz)]
    rw [sg_congr (g := fun (x : Nat) => bn (hasB s (x : Int)) + bn (decide (x = a.toNat))) (fun x _ => by
      by_cases e : x = a.toNat
      · have e1 : (x : Int) = a := by omega
        rw [e1, hasB_true.2 (List.mem_cons_self ..), hasB_false.2 hn'.1, bn_t (decide_eq_true e)]; rfl
      · have e1 : (x : Int) ≠ a := by omega
        rw [bn_f (decide_eq_false e)]
        congr 1
        rw [Bool.eq_iff_iff, hasB_true, hasB_true, List.mem_cons]
        exact ⟨fun h => h.resolve_left e1, .inr⟩), sg_add]
    congr 1
    rw [sg_only (g := fun (x : Nat) => bn (decide (x = a.toNat))) (i := a.toNat) (by omega) fun j _ hj => bn_f (decide_eq_false hj)]
    exact bn_t (decide_eq_true rfl)
theorem setB_nodup {s : List Int} {P : Nat} (h : setB s (P : Int) = true) : s.Nodup := (setB_iff.1 h).1.imp fun h => by omega
theorem cntP_sg (xss : List (List Int)) (x y : Nat) (k : Nat) : cntP xss (x : Int) (y : Int) k = sg (fun j => bn (lnB xss j x && lnB xss j y)) k := by
  induction k with
  | zero => rfl
  | succ k ih => rw [cntP_succ, ih, sg]; rfl
theorem affOk_inc {P : Nat} {xss : List (List Int)} (hD : DsgOk (P : Int) xss) (h : affOk P xss) : Inc P xss.length (row xss 0).length (lnB xss) := by
  obtain ⟨⟨_, _, h2, h3, h4⟩, h5, h6⟩ := h
  have hone : ∀ x y, x < y → y < P → cntP xss (x : Int) (y : Int) xss.length = 1 := fun x y hxy hy => by
    obtain ⟨i, hi, e⟩ := mem_nth.1 (pairL_mem (xss := xss) hxy hy)
    have := h4 i hi
    unfold parL at h5
    unfold cntF at e
    omega
  refine ⟨h6, h2, fun j hj => ?_, fun x y hx hy hne => ?_⟩
  · have hs := hD.rows j hj
    exact (sg_mem _ (setB_nodup hs) fun z hz => (setB_iff.1 hs).2.1 z hz).trans (h3 j hj)
  · rcases Nat.lt_or_gt_of_ne hne with e | e
    · rw [← cntP_sg]; exact hone x y e hy
    · rw [sg_congr (g := fun j => bn (lnB xss j y && lnB xss j x)) (fun j _ => by rw [Bool.and_comm]), ← cntP_sg]; exact hone y x e hx

/-! ### The classes -/
/-- Member i of class c. -/
def cN (C : List (List Int)) (c i : Nat) : Nat := (nth (row C c) i).toNat
def clsP (P : Nat) (xss C : List (List Int)) (k c : Nat) : Bool := dj (lnB xss) P (cN C c 0) k
def clsNext (P : Nat) (xss C : List (List Int)) (k : Nat) : List (List Int) :=
  if firstIdx (clsP P xss C k) C.length < 0 then C ++ [[(k : Int)]] else C.set (firstIdx (clsP P xss C k) C.length).toNat (row C (firstIdx (clsP P xss C k) C.length).toNat ++ [(k : Int)])
def clsTo (P : Nat) (xss : List (List Int)) : Nat → List (List Int)
  | 0 => []
  | k + 1 => clsNext P xss (clsTo P xss k) k
structure ClsOk (P : Nat) (xss C : List (List Int)) (k : Nat) : Prop where
  ne : ∀ c, c < C.length → 0 < (row C c).length
  mem : ∀ c, c < C.length → ∀ i, i < (row C c).length → nth (row C c) i = (cN C c i : Int) ∧ cN C c i < k
  same : ∀ c, c < C.length → ∀ i i', i < i' → i' < (row C c).length → cN C c i ≠ cN C c i' ∧ dj (lnB xss) P (cN C c i) (cN C c i') = true
  apart : ∀ c c', c < C.length → c' < C.length → c ≠ c' → ∀ i i', i < (row C c).length → i' < (row C c').length → cN C c i ≠ cN C c' i' ∧ dj (lnB xss) P (cN C c i) (cN C c' i') = false
  perm : C.flatten.Perm ((List.range k).map fun (j : Nat) => (j : Int))
theorem nth_snoc {xs : List Int} {v : Int} {i : Nat} (h : i < (xs ++ [v]).length) : i < xs.length ∧ nth (xs ++ [v]) i = nth xs i ∨ i = xs.length ∧ nth (xs ++ [v]) i = v := by
  rw [List.length_append, List.length_singleton] at h
  by_cases e : i < xs.length
  · exact .inl ⟨e, by simp [nth, List.getElem?_append_left e]⟩
  · obtain rfl : i = xs.length := by omega
    exact .inr ⟨rfl, by simp [nth]⟩
theorem row_set {C : List (List Int)} {c c' : Nat} {r : List Int} (h : c < C.length) : row (C.set c r) c' = if c = c' then r else row C c' := by
  unfold row
  rw [List.getElem?_set]
  by_cases e : c = c'
  · subst e; rw [if_pos rfl, if_pos rfl, if_pos h]; rfl
  · rw [if_neg e, if_neg e]
theorem firstIdx_case (p : Nat → Bool) (n : Nat) : (firstIdx p n = -1 ∧ ∀ c, c < n → p c = false) ∨ ∃ c, c < n ∧ firstIdx p n = (c : Int) ∧ p c = true := by
  by_cases e : 0 ≤ firstIdx p n
  · obtain ⟨k, hk, e1, e2, _⟩ := firstIdx_nat e
    exact .inr ⟨k, hk, e1, e2⟩
  · have hno : ∀ c, c < n → p c = false := fun c hc => by
      rcases h : p c with _ | _
      · rfl
      · have := firstIdx_any p n
        rw [anyTo_true.2 ⟨c, hc, h⟩, decide_eq_true_eq] at this
        omega
    exact .inl ⟨firstIdx_miss hno, hno⟩
theorem flatten_set_perm {C : List (List Int)} {c : Nat} {v : Int} (h : c < C.length) : (C.set c (row C c ++ [v])).flatten.Perm (C.flatten ++ [v]) := by
  induction C generalizing c with
  | nil => exact absurd h (by simp)
  | cons r C ih =>
    rcases c with _ | c
    · rw [List.set_cons_zero, List.flatten_cons, List.flatten_cons]
      rw [show row (r :: C) 0 = r from rfl, List.append_assoc, List.append_assoc]
      exact List.Perm.append_left _ List.perm_append_comm
    · rw [List.set_cons_succ, List.flatten_cons, List.flatten_cons, List.append_assoc]
      exact List.Perm.append_left _ (ih (c := c) (by simpa using h))
section
variable {P K : Nat} {xss C : List (List Int)} {k : Nat}
theorem ClsOk.nil_ : ClsOk P xss [] 0 := ⟨fun c h => absurd h (by simp), fun c h => absurd h (by simp), fun c h => absurd h (by simp), fun c _ h => absurd h (by simp), by simp⟩
/-- A block that no member of a class meets. -/
theorem ClsOk.clsP_all (hI : Inc P xss.length K (lnB xss)) (h : ClsOk P xss C k) (hk : k < xss.length) {c i : Nat} (hc : c < C.length) (hi : i < (row C c).length) : dj (lnB xss) P (cN C c i) k = clsP P xss C k c := by
  unfold clsP
  rcases i with _ | i
  · rfl
  · have h1 := h.same c hc 0 (i + 1) (by omega) hi
    have m0 := (h.mem c hc 0 (by omega)).2
    have m1 := (h.mem c hc (i + 1) hi).2
    rw [Bool.eq_iff_iff]
    constructor
    · intro e; exact hI.trans (by omega) (by omega) hk h1.2 e (by omega)
    · intro e; exact hI.trans (by omega) (by omega) hk (by rw [dj_comm]; exact h1.2) e (by omega)
/-- A block joins at most one class. -/
theorem ClsOk.clsP_uniq (hI : Inc P xss.length K (lnB xss)) (h : ClsOk P xss C k) (hk : k < xss.length) {c c' : Nat} (hc : c < C.length) (hc' : c' < C.length) (h1 : clsP P xss C k c = true) (h2 : clsP P xss C k c' = true) : c = c' := by
  by_cases e : c = c'
  · exact e
  · have n0 := h.ne c hc
    have n1 := h.ne c' hc'
    have ha := h.apart c c' hc hc' e 0 0 n0 n1
    have m0 := (h.mem c hc 0 n0).2
    have m1 := (h.mem c' hc' 0 n1).2
    unfold clsP at h1 h2
    have := hI.trans (by omega) hk (by omega) h1 (by rw [dj_comm]; exact h2) ha.1
    rw [ha.2] at this
    cases this
theorem ClsOk.next (hI : Inc P xss.length K (lnB xss)) (h : ClsOk P xss C k) (hk : k < xss.length) : ClsOk P xss (clsNext P xss C k) (k + 1) := by
  unfold clsNext
  have hsn : ∀ r : List Int, ∀ i, i < (r ++ [(k : Int)]).length → _ := fun r i hi => nth_snoc hi
  rcases firstIdx_case (clsP P xss C k) C.length with ⟨e, hno⟩ | ⟨c0, hc0, e, hyes⟩
  · rw [e, if_pos (by omega)]
    have hcase : ∀ c, c < (C ++ [[(k : Int)]]).length → (c < C.length ∧ row (C ++ [[(k : Int)]]) c = row C c) ∨ (c = C.length ∧ row (C ++ [[(k : Int)]]) c = [(k : Int)]) := fun c hc => by
      rw [List.length_append, List.length_singleton] at hc
      by_cases e : c < C.length
      · exact .inl ⟨e, row_append_lt e⟩
      · obtain rfl : c = C.length := by omega
        exact .inr ⟨rfl, row_append_eq⟩
    refine ⟨fun c hc => ?_, fun c hc i hi => ?_, fun c hc i i' hii hi => ?_, fun c c' hc hc' hne i i' hi hi' => ?_, ?_⟩
    · rcases hcase c hc with ⟨h1, h2⟩ | ⟨h1, h2⟩
      · rw [h2]; exact h.ne c h1
      · rw [h2]; simp
    · rcases hcase c hc with ⟨h1, h2⟩ | ⟨h1, h2⟩
      · rw [h2] at hi
        have := h.mem c h1 i hi
        unfold cN at this ⊢
        rw [h2]
        omega
      · rw [h2] at hi
        obtain rfl : i = 0 := by simpa using hi
        unfold cN
        rw [h2]
        simp [nth]
    · rcases hcase c hc with ⟨h1, h2⟩ | ⟨h1, h2⟩
      · rw [h2] at hi
        have := h.same c h1 i i' hii hi
        unfold cN at this ⊢
        rw [h2]; exact this
      · rw [h2] at hi
        simp at hi; omega
    · rcases hcase c hc with ⟨h1, h2⟩ | ⟨h1, h2⟩ <;> rcases hcase c' hc' with ⟨h1', h2'⟩ | ⟨h1', h2'⟩
      · rw [h2] at hi
        rw [h2'] at hi'
        have := h.apart c c' h1 h1' hne i i' hi hi'
        unfold cN at this ⊢
        rw [h2, h2']; exact this
      · rw [h2] at hi
        rw [h2'] at hi'
        obtain rfl : i' = 0 := by simpa using hi'
        have e1 : cN (C ++ [[(k : Int)]]) c i = cN C c i := by unfold cN; rw [h2]
        have e2 : cN (C ++ [[(k : Int)]]) c' 0 = k := by unfold cN; rw [h2']; simp [nth]
        rw [e1, e2, h.clsP_all hI hk h1 hi, hno c h1]
        have := (h.mem c h1 i hi).2
        exact ⟨by omega, rfl⟩
      · rw [h2] at hi
        rw [h2'] at hi'
        obtain rfl : i = 0 := by simpa using hi
        have e1 : cN (C ++ [[(k : Int)]]) c' i' = cN C c' i' := by unfold cN; rw [h2']
        have e2 : cN (C ++ [[(k : Int)]]) c 0 = k := by unfold cN; rw [h2]; simp [nth]
        rw [e1, e2, dj_comm, h.clsP_all hI hk h1' hi', hno c' h1']
        have := (h.mem c' h1' i' hi').2
        exact ⟨by omega, rfl⟩
      · omega
    · rw [List.flatten_append, List.range_succ, List.map_append]
      simp only [List.flatten_cons, List.flatten_nil, List.append_nil, List.map_cons, List.map_nil]
      exact h.perm.append (List.Perm.refl _)
  · rw [e, if_neg (by omega), show ((c0 : Int)).toNat = c0 by omega]
    have hrow := fun c => row_set (c' := c) (r := row C c0 ++ [(k : Int)]) hc0
    generalize hC' : C.set c0 (row C c0 ++ [(k : Int)]) = C' at *
    have hlen : C'.length = C.length := by rw [← hC', List.length_set]
    have hold : ∀ c i, c < C.length → i < (row C' c).length → (i < (row C c).length ∧ cN C' c i = cN C c i ∧ nth (row C' c) i = nth (row C c) i) ∨ (c = c0 ∧ i = (row C c0).length ∧ cN C' c i = k ∧ nth (row C' c) i = (k : Int)) := fun c i hc hi => by
      have hr := hrow c
      by_cases e : c0 = c
      · subst e
        rw [if_pos rfl] at hr
        rw [hr] at hi
        rcases nth_snoc hi with ⟨h1, h2⟩ | ⟨h1, h2⟩
        · exact .inl ⟨h1, by unfold cN; rw [hr, h2], by rw [hr, h2]⟩
        · exact .inr ⟨rfl, h1, by unfold cN; rw [hr, h2]; omega, by rw [hr, h2]⟩
      · rw [if_neg e] at hr
        rw [hr] at hi
        exact .inl ⟨hi, by unfold cN; rw [hr], by rw [hr]⟩
    refine ⟨fun c hc => ?_, fun c hc i hi => ?_, fun c hc i i' hii hi => ?_, fun c c' hc hc' hne i i' hi hi' => ?_, ?_⟩
    · rw [hrow c]
      split
      · simp
      · exact h.ne c (by omega)
    · rcases hold c i (by omega) hi with ⟨h1, h2, h3⟩ | ⟨h0, h1, h2, h3⟩
      · have := h.mem c (by omega) i h1
        rw [h2, h3]; omega
      · rw [h2, h3]; omega
    · rcases hold c i (by omega) (by omega) with ⟨h1, h2, h3⟩ | ⟨h0, h1, h2, h3⟩
      · rcases hold c i' (by omega) hi with ⟨h1', h2', h3'⟩ | ⟨h0', h1', h2', h3'⟩
        · rw [h2, h2']; exact h.same c (by omega) i i' hii h1'
        · subst h0'
          rw [h2, h2', h.clsP_all hI hk (by omega) h1, hyes]
          have := (h.mem c (by omega) i h1).2
          exact ⟨by omega, rfl⟩
      · subst h0
        have hr := hrow c
        rw [if_pos rfl] at hr
        rw [hr] at hi
        simp at hi
        omega
    · rcases hold c i (by omega) hi with ⟨h1, h2, h3⟩ | ⟨h0, h1, h2, h3⟩ <;> rcases hold c' i' (by omega) hi' with ⟨h1', h2', h3'⟩ | ⟨h0', h1', h2', h3'⟩
      · rw [h2, h2']; exact h.apart c c' (by omega) (by omega) hne i i' h1 h1'
      · subst h0'
        rw [h2, h2', h.clsP_all hI hk (by omega) h1]
        have := (h.mem c (by omega) i h1).2
        refine ⟨by omega, ?_⟩
        rcases e2 : clsP P xss C k c with _ | _
        · rfl
        · exact absurd (h.clsP_uniq hI hk (by omega) (by omega) e2 hyes) hne
      · subst h0
        rw [h2, h2', dj_comm, h.clsP_all hI hk (by omega) h1']
        have := (h.mem c' (by omega) i' h1').2
        refine ⟨by omega, ?_⟩
        rcases e2 : clsP P xss C k c' with _ | _
        · rfl
        · exact absurd (h.clsP_uniq hI hk (by omega) (by omega) hyes e2) hne
      · omega
    · rw [← hC', List.range_succ, List.map_append]
      exact (flatten_set_perm hc0).trans (h.perm.append (List.Perm.refl _))
end
theorem clsTo_ok {P K : Nat} {xss : List (List Int)} (hI : Inc P xss.length K (lnB xss)) {k : Nat} (hk : k ≤ xss.length) : ClsOk P xss (clsTo P xss k) k := by
  induction k with
  | zero => exact ClsOk.nil_
  | succ k ih => exact (ih (by omega)).next hI (by omega)
end Go.Proofs.Ytamklliaibfljaa
