/-
  The parallel classes of an affine plane, in plain Lean: each point lies once in each class, a class has K blocks, there are K + 1 classes. Conditions: those of each theorem.
-/
import Derived.Test.YtcdbbcnoleilfaaAff
namespace Go.Proofs.Ytcdbbcnoleilfaa
set_option linter.unusedVariables false
set_option linter.unusedSimpArgs false

theorem sg_range (g : Nat → Nat) (k : Nat) : ((List.range k).map g).sum = sg g k := by
  induction k with
  | zero => rfl
  | succ k ih => rw [List.range_succ, List.map_append, List.sum_append, ih, sg]; simp
theorem nth_all (xs : List Int) : (List.range xs.length).map (nth xs) = xs := by
  apply List.ext_getElem
  · simp
  · intro i a b; simp [nth, b]
theorem row_all (xss : List (List Int)) : (List.range xss.length).map (row xss) = xss := by
  apply List.ext_getElem
  · simp
  · intro i a b; simp [row, b]
theorem sg_list (f : Int → Nat) (xs : List Int) : (xs.map f).sum = sg (fun i => f (nth xs i)) xs.length := by
  conv => lhs; rw [← nth_all xs]
  rw [List.map_map, ← sg_range]; rfl
theorem sg_flat (f : Int → Nat) (C : List (List Int)) : (C.flatten.map f).sum = sg (fun c => sg (fun i => f (nth (row C c) i)) (row C c).length) C.length := by
  have hsf : ∀ L : List (List Nat), L.flatten.sum = (L.map List.sum).sum := fun L => by
    induction L with
    | nil => rfl
    | cons a L ih => rw [List.flatten_cons, List.sum_append, ih]; rfl
  rw [List.map_flatten, hsf, List.map_map]
  have : ∀ c, sg (fun i => f (nth (row C c) i)) (row C c).length = (List.sum ∘ List.map f) (row C c) := fun c => (sg_list f _).symm
  rw [sg_congr (g := fun c => (List.sum ∘ List.map f) (row C c)) (fun c _ => this c), ← sg_range]
  conv => lhs; rw [← row_all C]
  rw [List.map_map]; rfl
theorem mem_flat {C : List (List Int)} {z : Int} : z ∈ C.flatten ↔ ∃ c, c < C.length ∧ ∃ i, i < (row C c).length ∧ nth (row C c) i = z := by
  rw [List.mem_flatten]
  constructor
  · rintro ⟨r, hr, hz⟩
    obtain ⟨c, hc, rfl⟩ := List.mem_iff_getElem.1 hr
    obtain ⟨i, hi, e⟩ := mem_nth.1 hz
    exact ⟨c, hc, i, by rw [row_eq hc]; exact hi, by rw [row_eq hc]; exact e⟩
  · rintro ⟨c, hc, i, hi, e⟩
    rw [row_eq hc] at hi e
    exact ⟨_, List.getElem_mem hc, mem_nth.2 ⟨i, hi, e⟩⟩
section
variable {P K : Nat} {xss C : List (List Int)}
theorem ClsOk.find {k : Nat} (h : ClsOk P xss C k) {j : Nat} (hj : j < k) : ∃ c, c < C.length ∧ ∃ i, i < (row C c).length ∧ cN C c i = j := by
  have : ((j : Nat) : Int) ∈ C.flatten := h.perm.mem_iff.2 (List.mem_map.2 ⟨j, List.mem_range.2 hj, rfl⟩)
  obtain ⟨c, hc, i, hi, e⟩ := mem_flat.1 this
  exact ⟨c, hc, i, hi, by unfold cN; omega⟩
theorem ClsOk.inj {k : Nat} (h : ClsOk P xss C k) {c i i' : Nat} (hc : c < C.length) (hi : i < (row C c).length) (hi' : i' < (row C c).length) (e : cN C c i = cN C c i') : i = i' := by
  rcases Nat.lt_trichotomy i i' with e1 | e1 | e1
  · exact absurd e (h.same c hc i i' e1 hi').1
  · exact e1
  · exact absurd e.symm (h.same c hc i' i e1 hi).1
theorem ClsOk.injc {k : Nat} (h : ClsOk P xss C k) {c c' i i' : Nat} (hc : c < C.length) (hc' : c' < C.length) (hi : i < (row C c).length) (hi' : i' < (row C c').length) (e : cN C c i = cN C c' i') : c = c' := by
  by_cases e1 : c = c'
  · exact e1
  · exact absurd e (h.apart c c' hc hc' e1 i i' hi hi').1
/-- A point lies on one block of a class. -/
theorem ClsOk.on (hI : Inc P xss.length K (lnB xss)) (h : ClsOk P xss C xss.length) {c x : Nat} (hc : c < C.length) (hx : x < P) : ∃ i, i < (row C c).length ∧ lnB xss (cN C c i) x = true := by
  have h0 := h.ne c hc
  have m0 := (h.mem c hc 0 h0).2
  rcases e : lnB xss (cN C c 0) x with _ | _
  · obtain ⟨j, hj, h1, h2⟩ := hI.par_some m0 hx e
    obtain ⟨c', hc', i', hi', e'⟩ := h.find hj
    by_cases ec : c = c'
    · subst ec; exact ⟨i', hi', by rw [e']; exact h1⟩
    · have := (h.apart c c' hc hc' ec 0 i' h0 hi').2
      rw [e', h2] at this; cases this
  · exact ⟨0, h0, e⟩
theorem ClsOk.once (h : ClsOk P xss C xss.length) {c x i i' : Nat} (hc : c < C.length) (hx : x < P) (hi : i < (row C c).length) (hi' : i' < (row C c).length) (h1 : lnB xss (cN C c i) x = true) (h2 : lnB xss (cN C c i') x = true) : i = i' := by
  rcases Nat.lt_trichotomy i i' with e1 | e1 | e1
  · exact (dj_t.1 (h.same c hc i i' e1 hi').2 x hx h1 h2).elim
  · exact e1
  · exact (dj_t.1 (h.same c hc i' i e1 hi).2 x hx h2 h1).elim
theorem ClsOk.cover (hI : Inc P xss.length K (lnB xss)) (h : ClsOk P xss C xss.length) {c x : Nat} (hc : c < C.length) (hx : x < P) : sg (fun i => bn (lnB xss (cN C c i) x)) (row C c).length = 1 := by
  obtain ⟨i, hi, h1⟩ := h.on hI hc hx
  rw [sg_only (g := fun i => bn (lnB xss (cN C c i) x)) hi fun j hj hne => bn_f (by
    rcases e : lnB xss (cN C c j) x with _ | _
    · rfl
    · exact absurd (h.once hc hx hj hi e h1) hne)]
  exact bn_t h1
theorem ClsOk.len (hI : Inc P xss.length K (lnB xss)) (h : ClsOk P xss C xss.length) {c : Nat} (hc : c < C.length) : (row C c).length = K := by
  have e1 : sg (fun x => sg (fun i => bn (lnB xss (cN C c i) x)) (row C c).length) P = P := by
    rw [sg_congr (g := fun _ => 1) (fun x hx => h.cover hI hc hx), sg_const, Nat.mul_one]
  rw [sg_swap (fun i x => bn (lnB xss (cN C c i) x)), sg_congr (g := fun _ => K) (fun i hi => hI.len _ (h.mem c hc i hi).2), sg_const, ← hI.sq] at e1
  have h2 := hI.two
  exact Nat.eq_of_mul_eq_mul_right (by omega) e1
theorem ClsOk.many (hI : Inc P xss.length K (lnB xss)) (h : ClsOk P xss C xss.length) : C.length = K + 1 := by
  have hP : 0 < P := by have := hI.sq; have := hI.two; have : 0 < K * K := Nat.mul_pos (by omega) (by omega); omega
  have e1 := (h.perm.map fun z => bn (lnB xss z.toNat 0)).sum_nat
  rw [sg_flat, sg_congr (g := fun _ => 1) (fun c hc => (show sg (fun i => bn (lnB xss (nth (row C c) i).toNat 0)) (row C c).length = 1 from h.cover hI hc hP)), sg_const, Nat.mul_one, List.map_map, sg_range] at e1
  rw [e1, ← hI.repl hP]
  exact sg_congr fun j _ => by simp
theorem ClsOk.tot_ (h : ClsOk P xss C xss.length) : tot C = xss.length := by
  unfold tot
  rw [← List.length_flatten, h.perm.length_eq]; simp
end
/-! ### The plane that is made from it -/
/-- The class of a block. -/
def clsOf (C : List (List Int)) (k : Nat) : Int := firstIdx (fun c => hasB (row C c) (k : Int)) C.length
def cpR (P : Nat) (xss C : List (List Int)) (c i k : Nat) : List Int := row xss k ++ if clsOf C k < (c : Int) ∨ clsOf C k = (c : Int) ∧ (k : Int) ∈ (row C c).take i then [(P : Int) + clsOf C k] else []
def cpM (P : Nat) (xss C : List (List Int)) (c i : Nat) : List (List Int) := (List.range xss.length).map (cpR P xss C c i)
section
variable {P K : Nat} {xss C : List (List Int)}
theorem clsOf_eq (h : ClsOk P xss C xss.length) {c i : Nat} (hc : c < C.length) (hi : i < (row C c).length) : clsOf C (cN C c i) = (c : Int) := by
  have hm := h.mem c hc i hi
  refine firstIdx_hit hc (hasB_true.2 (mem_nth.2 ⟨i, hi, hm.1⟩)) fun j hj => hasB_false.2 fun hz => ?_
  obtain ⟨i', hi', e⟩ := mem_nth.1 hz
  have := h.injc (c := j) (c' := c) (by omega) hc hi' hi (by show (nth (row C j) i').toNat = _; rw [e]; simp)
  omega
theorem clsOf_in (h : ClsOk P xss C xss.length) {k : Nat} (hk : k < xss.length) : ∃ c, c < C.length ∧ clsOf C k = (c : Int) ∧ ∃ i, i < (row C c).length ∧ cN C c i = k ∧ nth (row C c) i = (k : Int) := by
  obtain ⟨c, hc, i, hi, e⟩ := h.find hk
  refine ⟨c, hc, ?_, i, hi, e, ?_⟩
  · rw [← e]; exact clsOf_eq h hc hi
  · rw [← e]; exact (h.mem c hc i hi).1
theorem cpM_len (c i : Nat) : (cpM P xss C c i).length = xss.length := by simp [cpM]
theorem cpM_row {c i k : Nat} (hk : k < xss.length) : row (cpM P xss C c i) k = cpR P xss C c i k := by simp [row, cpM, hk]
theorem cpM_zero (h : ClsOk P xss C xss.length) : cpM P xss C 0 0 = xss := by
  have : ∀ k, k < xss.length → cpR P xss C 0 0 k = row xss k := fun k hk => by
    obtain ⟨c, _, e, _⟩ := clsOf_in h hk
    unfold cpR
    rw [if_neg, List.append_nil]
    rintro (h | ⟨_, h⟩)
    · omega
    · simp at h
  conv => rhs; rw [← row_all xss]
  exact List.map_congr_left fun k hk => this k (List.mem_range.1 hk)
theorem cpM_next (h : ClsOk P xss C xss.length) {c : Nat} (hc : c < C.length) : cpM P xss C c (row C c).length = cpM P xss C (c + 1) 0 := by
  refine List.map_congr_left fun k hk => ?_
  obtain ⟨c', hc', e, i, hi, e1, e2⟩ := clsOf_in h (List.mem_range.1 hk)
  unfold cpR
  rw [List.take_length]
  congr 1
  by_cases h1 : clsOf C k < (c : Int) ∨ clsOf C k = (c : Int) ∧ (k : Int) ∈ row C c
  · rw [if_pos h1, if_pos (.inl (by omega))]
  · rw [if_neg h1, if_neg]
    rintro (h2 | ⟨_, h2⟩)
    · refine h1 ?_
      by_cases e3 : clsOf C k < (c : Int)
      · exact .inl e3
      · obtain rfl : c' = c := by omega
        exact .inr ⟨e, mem_nth.2 ⟨i, hi, e2⟩⟩
    · simp at h2
theorem cpM_step (h : ClsOk P xss C xss.length) {c i : Nat} (hc : c < C.length) (hi : i < (row C c).length) :
    row (cpM P xss C c i) (cN C c i) = row xss (cN C c i) ∧ (cpM P xss C c i).set (cN C c i) (row xss (cN C c i) ++ [(P : Int) + (c : Int)]) = cpM P xss C c (i + 1) := by
  have hm := h.mem c hc i hi
  have hcl := clsOf_eq h hc hi
  constructor
  · rw [cpM_row hm.2]
    unfold cpR
    rw [if_neg, List.append_nil]
    rintro (h1 | ⟨_, h1⟩)
    · omega
    · obtain ⟨j, hj, e⟩ := mem_nth.1 h1
      rw [List.length_take] at hj
      have e2 : nth ((row C c).take i) j = nth (row C c) j := by simp [nth, List.getElem?_take, show j < i by omega]
      rw [e2] at e
      have := h.inj hc (i := j) (i' := i) (by omega) hi (by unfold cN; omega)
      omega
  · apply List.ext_getElem
    · rw [List.length_set, cpM_len, cpM_len]
    · intro k a b
      rw [List.length_set, cpM_len] at a
      rw [List.getElem_set]
      simp only [cpM, List.getElem_map, List.getElem_range]
      have htake := take_nth hi
      by_cases e : cN C c i = k
      · rw [if_pos e, ← e]
        unfold cpR
        rw [hcl, if_pos (.inr ⟨rfl, by rw [htake, ← hm.1]; simp⟩)]
      · rw [if_neg e]
        unfold cpR
        rw [htake, hm.1]
        congr 1
        have : ((k : Int) ∈ (row C c).take i ++ [((cN C c i : Nat) : Int)]) ↔ (k : Int) ∈ (row C c).take i := by
          rw [List.mem_append, List.mem_singleton]
          constructor
          · rintro (h | h)
            · exact h
            · exact absurd h (by omega)
          · exact .inl
        simp only [this]
/-- A block with the point of its class. -/
def cpG (P : Nat) (xss C : List (List Int)) (k : Nat) : List Int := row xss k ++ [(P : Int) + clsOf C k]
theorem cpM_full (h : ClsOk P xss C xss.length) : cpM P xss C C.length 0 = (List.range xss.length).map (cpG P xss C) := by
  refine List.map_congr_left fun k hk => ?_
  obtain ⟨c', hc', e, i, hi, e1, e2⟩ := clsOf_in h (List.mem_range.1 hk)
  unfold cpR cpG
  rw [if_pos (.inl (by omega))]
/-- What the reference makes, class by class. -/
def cqI (P : Nat) (xss C : List (List Int)) (c i : Nat) : List (List Int) := (List.range i).map fun j => row xss (cN C c j) ++ [(P : Int) + (c : Int)]
def cqC (P : Nat) (xss C : List (List Int)) (c : Nat) : List (List Int) := (List.range c).flatMap fun c => cqI P xss C c (row C c).length
theorem cqI_succ (c i : Nat) : cqI P xss C c (i + 1) = cqI P xss C c i ++ [row xss (cN C c i) ++ [(P : Int) + (c : Int)]] := by simp [cqI, List.range_succ]
theorem cqC_succ (c : Nat) : cqC P xss C (c + 1) = cqC P xss C c ++ cqI P xss C c (row C c).length := by simp [cqC, List.range_succ]
theorem cqC_perm (h : ClsOk P xss C xss.length) : (cqC P xss C C.length).Perm ((List.range xss.length).map (cpG P xss C)) := by
  have e1 : ∀ G : Int → List Int, (∀ z, G z = cpG P xss C z.toNat) → cqC P xss C C.length = C.flatten.map G := fun G hG => by
    conv => rhs; rw [← row_all C]
    rw [List.map_flatten, List.map_map, cqC, List.flatMap_def]
    congr 1
    refine List.map_congr_left fun c hc => ?_
    have hc := List.mem_range.1 hc
    show cqI P xss C c (row C c).length = List.map _ (row C c)
    conv => rhs; rw [← nth_all (row C c)]
    rw [List.map_map, cqI]
    refine List.map_congr_left fun i hi => ?_
    have hi := List.mem_range.1 hi
    have := clsOf_eq h hc hi
    show _ = G (nth (row C c) i)
    rw [hG]
    unfold cpG
    rw [show (nth (row C c) i).toNat = cN C c i from rfl, this]
  rw [e1 (fun z => cpG P xss C z.toNat) fun _ => rfl]
  refine (h.perm.map _).trans ?_
  rw [List.map_map]
  exact .of_eq (List.map_congr_left fun k _ => by simp)
end
end Go.Proofs.Ytcdbbcnoleilfaa
