/-
  PlaneOfMols as a plain law: orthogonal squares, lines of a square. Conditions: those of each theorem.
-/
import Derived.Test.YthgbfgdnljgicaaSqr
import Derived.Test.YthgbfgdnljgicaaZer
import Derived.Test.YthgbfgdnljgicaaTri
import Derived.Test.YthgbfgdnljgicaaSmL
namespace Go.Proofs.Ythgbfgdnljgicaa
set_option linter.unusedVariables false
set_option linter.unusedSimpArgs false

theorem sqB_ent {a : List (List Int)} (h : sqB a = true) {n : Nat} (hn : a.length = n) : (1 ≤ n ∧ n ≤ 10) ∧ (∀ x, x < n → (row a x).length = n) ∧ ∀ x y, x < n → y < n → ∃ v : Nat, v < n ∧ nth (row a x) y = (v : Int) := by
  subst hn
  unfold sqB at h
  rw [decide_eq_true_eq] at h
  obtain ⟨h1, h2, _⟩ := h
  refine ⟨h1, fun x hx => (h2 x hx).1, fun x y hx hy => ?_⟩
  obtain ⟨hl, hp⟩ := h2 x hx
  unfold permB at hp
  rw [decide_eq_true_eq] at hp
  have hm : nth (row a x) y ∈ sortL (row a x) := sortL_mem.2 (mem_nth.2 ⟨y, by omega, rfl⟩)
  rw [hp.2, hl] at hm
  unfold idL at hm
  obtain ⟨v, hv, e⟩ := List.mem_map.1 hm
  exact ⟨v, List.mem_range.1 hv, e.symm⟩

/-- The pair of symbols of two squares at a cell, as a number. -/
def ovF (n : Nat) (a b : List (List Int)) (x y : Nat) : Int := (n : Int) * nth (row a x) y + nth (row b x) y
def ovR (n : Nat) (a b : List (List Int)) (x k : Nat) : List Int := (List.range k).map (ovF n a b x)
def ovT (n : Nat) (a b : List (List Int)) (k : Nat) : List Int := (List.range k).flatMap fun x => ovR n a b x n
theorem ovR_succ (n : Nat) (a b : List (List Int)) (x k : Nat) : ovR n a b x (k + 1) = ovR n a b x k ++ [ovF n a b x k] := by simp [ovR, List.range_succ]
theorem ovT_succ (n : Nat) (a b : List (List Int)) (k : Nat) : ovT n a b (k + 1) = ovT n a b k ++ ovR n a b k n := by simp [ovT, List.range_succ]
theorem ovR_pre (n : Nat) (a b : List (List Int)) (x : Nat) {j k : Nat} (h : j ≤ k) : (ovR n a b x j).IsPrefix (ovR n a b x k) := by
  obtain ⟨d, rfl⟩ : ∃ d, k = j + d := ⟨k - j, by omega⟩
  induction d with
  | zero => exact List.prefix_refl _
  | succ d ih => exact (ih (by omega)).trans (by rw [← Nat.add_assoc, ovR_succ]; exact List.prefix_append _ _)
theorem ovT_pre (n : Nat) (a b : List (List Int)) {j k : Nat} (h : j ≤ k) : (ovT n a b j).IsPrefix (ovT n a b k) := by
  obtain ⟨d, rfl⟩ : ∃ d, k = j + d := ⟨k - j, by omega⟩
  induction d with
  | zero => exact List.prefix_refl _
  | succ d ih => exact (ih (by omega)).trans (by rw [← Nat.add_assoc, ovT_succ]; exact List.prefix_append _ _)
theorem ov_pre (n : Nat) (a b : List (List Int)) {x y : Nat} (hx : x < n) (hy : y ≤ n) : (ovT n a b x ++ ovR n a b x y).IsPrefix (ovT n a b n) :=
  ((List.prefix_append_right_inj _).2 (ovR_pre n a b x hy)).trans (by rw [← ovT_succ]; exact ovT_pre n a b hx)
/-- No pair of symbols comes twice. -/
def ortB (n : Nat) (a b : List (List Int)) : Bool := decide (ovT n a b n).Nodup
def ovW (n : Nat) (v : Int) : Int := (n : Int) * (v % (n : Int)) + v / (n : Int)
theorem ovF_swap {n : Nat} {a b : List (List Int)} {x y u v : Nat} (ha : nth (row a x) y = (u : Int)) (hb : nth (row b x) y = (v : Int)) (hu : u < n) (hv : v < n) : ovF n b a x y = ovW n (ovF n a b x y) := by
  unfold ovW ovF
  rw [ha, hb]
  have h1 : ((n : Int) * (u : Int) + (v : Int)) % (n : Int) = (v : Int) := by
    rw [← Int.natCast_mul, ← Int.natCast_add, ← Int.natCast_emod, Nat.mul_add_mod, Nat.mod_eq_of_lt hv]
  have h2 : ((n : Int) * (u : Int) + (v : Int)) / (n : Int) = (u : Int) := by
    rw [← Int.natCast_mul, ← Int.natCast_add, ← Int.natCast_ediv, Nat.mul_add_div (by omega), Nat.div_eq_of_lt hv]; simp
  rw [h1, h2]
theorem ovT_swap {n : Nat} {a b : List (List Int)} (ha : ∀ x y, x < n → y < n → ∃ v : Nat, v < n ∧ nth (row a x) y = (v : Int)) (hb : ∀ x y, x < n → y < n → ∃ v : Nat, v < n ∧ nth (row b x) y = (v : Int)) {k : Nat} (hk : k ≤ n) : ovT n b a k = (ovT n a b k).map (ovW n) := by
  induction k with
  | zero => rfl
  | succ k ih =>
    rw [ovT_succ, ovT_succ, List.map_append, ih (by omega)]
    congr 1
    unfold ovR
    rw [List.map_map]
    refine List.map_congr_left fun y hy => ?_
    obtain ⟨u, hu, e1⟩ := ha k y (by omega) (List.mem_range.1 hy)
    obtain ⟨v, hv, e2⟩ := hb k y (by omega) (List.mem_range.1 hy)
    exact ovF_swap e1 e2 hu hv
theorem nodup_of_map {α β : Type} {f : α → β} {l : List α} (h : (l.map f).Nodup) : l.Nodup := by
  rw [List.nodup_iff_pairwise_ne, List.pairwise_map] at h
  exact List.nodup_iff_pairwise_ne.2 (h.imp fun h e => h (by rw [e]))
theorem ortB_comm {n : Nat} {a b : List (List Int)} (ha : sqB a = true) (hb : sqB b = true) (hla : a.length = n) (hlb : b.length = n) : ortB n a b = ortB n b a := by
  have h1 := (sqB_ent ha hla).2.2
  have h2 := (sqB_ent hb hlb).2.2
  unfold ortB
  rw [decide_eq_decide]
  constructor
  · intro h
    rw [ovT_swap h2 h1 (Nat.le_refl n)] at h
    exact nodup_of_map h
  · intro h
    rw [ovT_swap h1 h2 (Nat.le_refl n)] at h
    exact nodup_of_map h

/-- Squares of which any two are orthogonal. -/
def molAt (x : List (List (List Int))) (i k : Nat) : Prop := sqB (pln x i) = true ∧ ∀ j, j < k → (pln x j).length = (pln x i).length ∧ ortB (pln x i).length (pln x i) (pln x j) = true
instance (x : List (List (List Int))) (i k : Nat) : Decidable (molAt x i k) := by unfold molAt; infer_instance
def molB (x : List (List (List Int))) : Bool := decide ((1 ≤ x.length ∧ x.length ≤ 10) ∧ ∀ i, i < x.length → molAt x i i)
theorem molAt_len {x : List (List (List Int))} {k : Nat} (h : ∀ i, i < k → molAt x i i) {i : Nat} (hi : i < k) : (pln x i).length = (pln x 0).length := by
  rcases Nat.eq_zero_or_pos i with e | e
  · rw [e]
  · exact ((h i hi).2 0 e).1.symm

/-- The cells of a square, row by row, that hold a symbol. -/
def lnX (f : Nat → Nat → Int) (n v x k : Nat) : List Int := ((List.range k).filter fun y => f x y == (v : Int)).map fun y => ((n * x + y : Nat) : Int)
def lnT (f : Nat → Nat → Int) (n v k : Nat) : List Int := (List.range k).flatMap fun x => lnX f n v x n
def lnC (f : Nat → Nat → Int) (n v k : Nat) : List Int := ((List.range k).filter fun c => f (c / n) (c % n) == (v : Int)).map fun (c : Nat) => (c : Int)
theorem lnX_hit {f : Nat → Nat → Int} {n v x k : Nat} (h : f x k = (v : Int)) : lnX f n v x (k + 1) = lnX f n v x k ++ [((n * x + k : Nat) : Int)] := by simp [lnX, List.range_succ, h]
theorem lnX_miss {f : Nat → Nat → Int} {n v x k : Nat} (h : f x k ≠ (v : Int)) : lnX f n v x (k + 1) = lnX f n v x k := by simp [lnX, List.range_succ, h]
theorem lnT_succ (f : Nat → Nat → Int) (n v k : Nat) : lnT f n v (k + 1) = lnT f n v k ++ lnX f n v k n := by simp [lnT, List.range_succ]
theorem lnC_hit {f : Nat → Nat → Int} {n v k : Nat} (h : f (k / n) (k % n) = (v : Int)) : lnC f n v (k + 1) = lnC f n v k ++ [(k : Int)] := by simp [lnC, List.range_succ, h]
theorem lnC_miss {f : Nat → Nat → Int} {n v k : Nat} (h : f (k / n) (k % n) ≠ (v : Int)) : lnC f n v (k + 1) = lnC f n v k := by simp [lnC, List.range_succ, h]
theorem lnC_row (f : Nat → Nat → Int) {n : Nat} (v x : Nat) {k : Nat} (hk : k ≤ n) : lnC f n v (n * x + k) = lnC f n v (n * x) ++ lnX f n v x k := by
  induction k with
  | zero => simp [lnX]
  | succ k ih =>
    have h1 : (n * x + k) / n = x := by rw [Nat.mul_add_div (by omega), Nat.div_eq_of_lt (by omega)]; rfl
    have h2 : (n * x + k) % n = k := by rw [Nat.mul_add_mod, Nat.mod_eq_of_lt (by omega)]
    rw [← Nat.add_assoc]
    by_cases h : f x k = (v : Int)
    · rw [lnC_hit (by rw [h1, h2]; exact h), ih (by omega), lnX_hit h, List.append_assoc]
    · rw [lnC_miss (by rw [h1, h2]; exact h), ih (by omega), lnX_miss h]
theorem lnC_all (f : Nat → Nat → Int) (n v k : Nat) : lnC f n v (n * k) = lnT f n v k := by
  induction k with
  | zero => simp [lnC, lnT]
  | succ k ih => rw [Nat.mul_succ, lnC_row f v k (Nat.le_refl n), ih, lnT_succ]
theorem lnX_len (f : Nat → Nat → Int) (n v x k : Nat) : (lnX f n v x k).length ≤ k := by
  unfold lnX
  rw [List.length_map]
  exact Nat.le_trans (List.length_filter_le _ _) (by simp)
theorem lnC_len (f : Nat → Nat → Int) (n v k : Nat) : (lnC f n v k).length ≤ k := by
  unfold lnC
  rw [List.length_map]
  exact Nat.le_trans (List.length_filter_le _ _) (by simp)
def rwF (x _ : Nat) : Int := (x : Int)
def clF (_ y : Nat) : Int := (y : Int)
def rwL (n v k : Nat) : List Int := (List.range k).map fun y => ((n * v + y : Nat) : Int)
def clL (n v k : Nat) : List Int := (List.range k).map fun x => ((n * x + v : Nat) : Int)
theorem rwL_succ (n v k : Nat) : rwL n v (k + 1) = rwL n v k ++ [((n * v + k : Nat) : Int)] := by simp [rwL, List.range_succ]
theorem clL_succ (n v k : Nat) : clL n v (k + 1) = clL n v k ++ [((n * k + v : Nat) : Int)] := by simp [clL, List.range_succ]
theorem lnX_row (n v x k : Nat) : lnX rwF n v x k = if x = v then rwL n v k else [] := by
  induction k with
  | zero => simp [lnX, rwL]
  | succ k ih =>
    by_cases e : x = v
    · subst e; rw [lnX_hit rfl, ih, if_pos rfl, if_pos rfl, rwL_succ]
    · rw [lnX_miss (by unfold rwF; omega), ih, if_neg e, if_neg e]
theorem lnT_row (n v k : Nat) : lnT rwF n v k = if v < k then rwL n v n else [] := by
  induction k with
  | zero => simp [lnT]
  | succ k ih =>
    rw [lnT_succ, ih, lnX_row]
    by_cases e : k = v
    · subst e; rw [if_neg (by omega), if_pos rfl, if_pos (by omega), List.nil_append]
    · rw [if_neg e, List.append_nil]
      by_cases h : v < k
      · rw [if_pos h, if_pos (by omega)]
      · rw [if_neg h, if_neg (by omega)]
theorem lnX_col (n v x k : Nat) : lnX clF n v x k = if v < k then [((n * x + v : Nat) : Int)] else [] := by
  induction k with
  | zero => simp [lnX]
  | succ k ih =>
    by_cases e : k = v
    · subst e; rw [lnX_hit rfl, ih, if_neg (by omega), if_pos (by omega), List.nil_append]
    · rw [lnX_miss (by unfold clF; omega), ih]
      by_cases h : v < k
      · rw [if_pos h, if_pos (by omega)]
      · rw [if_neg h, if_neg (by omega)]
theorem lnT_col {n v : Nat} (hv : v < n) (k : Nat) : lnT clF n v k = clL n v k := by
  induction k with
  | zero => rfl
  | succ k ih => rw [lnT_succ, ih, lnX_col, if_pos hv, clL_succ]

/-- The lines of a square. -/
def lnS (f : Nat → Nat → Int) (n k : Nat) : List (List Int) := (List.range k).map fun v => lnT f n v n
theorem lnS_succ (f : Nat → Nat → Int) (n k : Nat) : lnS f n (k + 1) = lnS f n k ++ [lnT f n k n] := by simp [lnS, List.range_succ]
theorem lnS_len (f : Nat → Nat → Int) (n k : Nat) : (lnS f n k).length = k := by simp [lnS]
def plE (x : List (List (List Int))) (i : Nat) : Nat → Nat → Int := fun u y => nth (row (pln x i) u) y
def pomL (n : Nat) (x : List (List (List Int))) (k : Nat) : List (List Int) := (List.range k).flatMap fun i => lnS (plE x i) n n
theorem pomL_succ (n : Nat) (x : List (List (List Int))) (k : Nat) : pomL n x (k + 1) = pomL n x k ++ lnS (plE x k) n n := by simp [pomL, List.range_succ]
theorem pomL_len (n : Nat) (x : List (List (List Int))) (k : Nat) : (pomL n x k).length = n * k := by
  induction k with
  | zero => simp [pomL]
  | succ k ih => rw [pomL_succ, List.length_append, ih, lnS_len, Nat.mul_succ]
/-- The lines as the program makes them, as the reference makes them. -/
def pomI (n : Nat) (x : List (List (List Int))) : List (List Int) := (lnS rwF n n ++ lnS clF n n) ++ pomL n x x.length
def rcL (n k : Nat) : List (List Int) := (List.range k).flatMap fun v => [rwL n v n, clL n v n]
theorem rcL_succ (n k : Nat) : rcL n (k + 1) = rcL n k ++ [rwL n k n, clL n k n] := by simp [rcL, List.range_succ]
theorem rcL_len (n k : Nat) : (rcL n k).length = 2 * k := by
  induction k with
  | zero => rfl
  | succ k ih => rw [rcL_succ, List.length_append, ih]; simp; omega
def pomS (n : Nat) (x : List (List (List Int))) : List (List Int) := rcL n n ++ pomL n x x.length
theorem rcL_perm (n k : Nat) (hk : k ≤ n) : (rcL n k).Perm (lnS rwF n k ++ lnS clF n k) := by
  induction k with
  | zero => exact List.Perm.refl _
  | succ k ih =>
    rw [rcL_succ, lnS_succ, lnS_succ, lnT_row, if_pos (by omega), lnT_col (by omega)]
    refine (List.Perm.append_right _ (ih (by omega))).trans ?_
    rw [List.append_assoc, List.append_assoc]
    refine List.Perm.append_left _ ?_
    rw [show [rwL n k n, clL n k n] = [rwL n k n] ++ [clL n k n] from rfl, ← List.append_assoc, ← List.append_assoc]
    exact List.Perm.append_right _ List.perm_append_comm
theorem pom_perm (n : Nat) (x : List (List (List Int))) : (pomS n x).Perm (pomI n x) := List.Perm.append_right _ (rcL_perm n n (Nat.le_refl n))
theorem lnT_len (f : Nat → Nat → Int) (n v : Nat) : (lnT f n v n).length ≤ n * n := by rw [← lnC_all]; exact lnC_len f n v (n * n)
theorem lnS_rows {f : Nat → Nat → Int} {n k : Nat} {r : List Int} (h : r ∈ lnS f n k) : r.length ≤ n * n := by
  obtain ⟨v, _, rfl⟩ := List.mem_map.1 h; exact lnT_len f n v
theorem pomI_rows {n : Nat} {x : List (List (List Int))} {r : List Int} (h : r ∈ pomI n x) : r.length ≤ n * n := by
  rcases List.mem_append.1 h with h | h
  · rcases List.mem_append.1 h with h | h <;> exact lnS_rows h
  · obtain ⟨i, _, h⟩ := List.mem_flatMap.1 h
    exact lnS_rows h
theorem pomI_len (n : Nat) (x : List (List (List Int))) : (pomI n x).length = 2 * n + n * x.length := by
  unfold pomI
  rw [List.length_append, List.length_append, lnS_len, lnS_len, pomL_len]; omega

def pomN (x : List (List (List Int))) : Nat := (pln x 0).length
def pomC (x : List (List (List Int))) : Int := if molB x = true then (if pomN x * pomN x ≤ 32 then (if x.length + 1 = pomN x then 0 else 6) else 2) else 1
def pomX (x : List (List (List Int))) : List (List Int) := if molB x = true then (if pomN x * pomN x ≤ 32 then (if x.length + 1 = pomN x then sortLL (pomI (pomN x) x) else []) else []) else []
def pomP (x : List (List (List Int))) : Int := if molB x = true then (if pomN x * pomN x ≤ 32 then (if x.length + 1 = pomN x then ((pomN x * pomN x : Nat) : Int) else 0) else 0) else 0
theorem sq_le5 {n : Nat} (h : n * n ≤ 32) : n ≤ 5 := by
  rcases Nat.lt_or_ge 5 n with e | e
  · have := Nat.mul_le_mul (show 6 ≤ n by omega) (show 6 ≤ n by omega); omega
  · exact e
theorem pomI_small {n : Nat} {x : List (List (List Int))} (h : n * n ≤ 32) (hl : x.length + 1 = n) : (pomI n x).length ≤ 128 := by
  have h5 := sq_le5 h
  rw [pomI_len]
  have := Nat.mul_le_mul h5 (show x.length ≤ 4 by omega)
  omega
theorem PlaneOfMols_small (x : List (List (List Int))) : (pomX x).length ≤ 1048576 ∧ tot (pomX x) ≤ 1048576 := by
  unfold pomX
  split
  · split
    · split
      · next h hl =>
        exact sortLL_small (by have := pomI_small h hl; omega) fun r hr => by have := pomI_rows hr; omega
      · simp [tot]
    · simp [tot]
  · simp [tot]
end Go.Proofs.Ythgbfgdnljgicaa
