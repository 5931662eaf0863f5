/-
  Lists of rows that grow by whole slices; what lies under both walks of PlaneOfMols. Conditions: those of each theorem.
-/
import Derived.Test.YthgbfgdnljgicaaPomC
import Derived.Test.YthgbfgdnljgicaaSumA
import Derived.Test.YthgbfgdnljgicaaPutR
namespace Go.Proofs.Ythgbfgdnljgicaa
open Go.RowKit
set_option linter.unusedVariables false
set_option linter.unusedSimpArgs false

theorem OwnM.grow_join {w0 w w' : World} {lo G : Nat} {A A' B : Option Addr} {c c' d : Nat} {R S : Spine} {xss yss : List (List Int)} (h0 : OwnM w0 lo A c R xss) (hb : Below w0.heap.size w0 w) (hG : w0.heap.size ≤ G) (hlo : lo ≤ w0.heap.size) (hy : OwnM w G B d S yss)
    (ho : w'.ownsRow lo 35 1 (.slice A' (xss.length + yss.length) c') (xss.length + yss.length) (valsM R xss ++ valsM S yss)) (hg : w.grownBy w' (blk A)) : OwnM w' lo A' c' (joinS R S xss.length) (xss ++ yss) := by
  have h := h0.below hb
  have hA : ∀ g, blk A = some g → g < w0.heap.size := fun g e => by
    rcases h0.form with ⟨e1, _⟩ | ⟨g1, e1, _, h2, _⟩
    · rw [e1] at e; simp [blk] at e
    · rw [e1, blk_some] at e; injection e with e; omega
  have hrow : ∀ k, row (xss ++ yss) k = if k < xss.length then row xss k else row yss (k - xss.length) := fun k => by
    by_cases h1 : k < xss.length
    · rw [if_pos h1]; simp [row, List.getElem?_append_left h1]
    · rw [if_neg h1]; simp [row, List.getElem?_append_right (Nat.le_of_not_lt h1)]
  have hvals : valsM R xss ++ valsM S yss = (List.range (xss ++ yss).length).map fun k => .slice (joinS R S xss.length k).1 (row (xss ++ yss) k).length (joinS R S xss.length k).2 := by
    unfold valsM
    rw [List.length_append, List.range_add, List.map_append, List.map_map]
    congr 1
    · refine List.map_congr_left fun k hk => ?_
      have hk := List.mem_range.1 hk
      rw [hrow, if_pos hk]; unfold joinS; rw [if_pos hk]
    · refine List.map_congr_left fun k hk => ?_
      simp only [Function.comp_apply]
      rw [hrow, if_neg (by omega), show xss.length + k - xss.length = k by omega]
      unfold joinS
      rw [if_neg (by omega), show xss.length + k - xss.length = k by omega]
  refine ⟨by rw [List.length_append, ← List.length_append, ← hvals, List.length_append]; exact ho, fun k hk => ?_, fun i j hij hj g e1 e2 => ?_⟩
  · rw [List.length_append] at hk
    rw [hrow]
    unfold joinS
    by_cases h1 : k < xss.length
    · rw [if_pos h1, if_pos h1]
      refine (h.rows k h1).grown hg fun g e e2 => ?_
      have h3 := (h.rows k h1)
      rcases h.form with ⟨e4, _⟩ | ⟨g4, e4, _⟩
      · rw [e4] at e2; simp [blk] at e2
      · rw [e4, blk_some] at e2
        injection e2 with e2
        subst e2
        exact h.outer_ne h1 e4 e
    · rw [if_neg h1, if_neg h1]
      have h3 := hy.rows (k - xss.length) (by omega)
      refine (h3.lower (by omega)).grown hg fun g e e2 => ?_
      have h4 := hA g e2
      have h5 := (h3.lt e).1
      omega
  · rw [List.length_append] at hj
    unfold joinS at e1 e2
    by_cases h1 : j < xss.length
    · rw [if_pos (by omega)] at e1
      rw [if_pos h1] at e2
      exact h.apart i j hij h1 g e1 e2
    · rw [if_neg h1] at e2
      have h5 := ((hy.rows (j - xss.length) (by omega)).lt e2).1
      by_cases h2 : i < xss.length
      · rw [if_pos h2] at e1
        have h6 := ((h0.rows i h2).lt e1).2
        omega
      · rw [if_neg h2] at e1
        exact hy.apart (i - xss.length) (j - xss.length) (by omega) (by omega) g e1 e2

theorem pln_app_lt {x y : List (List (List Int))} {k : Nat} (h : k < x.length) : pln (x ++ y) k = pln x k := by simp [pln, List.getElem?_append_left h]
theorem pln_app_ge {x y : List (List (List Int))} {k : Nat} : pln (x ++ y) (x.length + k) = pln y k := by simp [pln, List.getElem?_append_right]
theorem pomL_app (n : Nat) (x y : List (List (List Int))) (k : Nat) : pomL n (x ++ y) (x.length + k) = pomL n x x.length ++ pomL n y k := by
  induction k with
  | zero =>
    rw [Nat.add_zero, show pomL n y 0 = [] from rfl, List.append_nil]
    unfold pomL
    have : ∀ j, j ≤ x.length → ((List.range j).flatMap fun i => lnS (plE (x ++ y) i) n n) = (List.range j).flatMap fun i => lnS (plE x i) n n := fun j hj => by
      induction j with
      | zero => rfl
      | succ j ih =>
        rw [List.range_succ, List.flatMap_append, List.flatMap_append, ih (by omega)]
        simp only [List.flatMap_cons, List.flatMap_nil, List.append_nil]
        congr 2
        unfold plE
        rw [pln_app_lt (by omega)]
    exact this _ (Nat.le_refl _)
  | succ k ih =>
    rw [← Nat.add_assoc, pomL_succ, ih, pomL_succ, List.append_assoc]
    congr 3
    unfold plE
    rw [pln_app_ge]
theorem lnX_congr {f g : Nat → Nat → Int} {n v x k : Nat} (h : ∀ y, y < k → f x y = g x y) : lnX f n v x k = lnX g n v x k := by
  unfold lnX
  congr 1
  exact List.filter_congr fun y hy => by rw [h y (List.mem_range.1 hy)]
theorem lnT_congr {f g : Nat → Nat → Int} {n v k : Nat} (h : ∀ x y, x < k → y < n → f x y = g x y) : lnT f n v k = lnT g n v k := by
  induction k with
  | zero => rfl
  | succ k ih => rw [lnT_succ, lnT_succ, ih fun x y hx hy => h x y (by omega) hy, lnX_congr fun y hy => h k y (by omega) hy]
theorem lnS_congr {f g : Nat → Nat → Int} {n k : Nat} (h : ∀ x y, x < n → y < n → f x y = g x y) : lnS f n k = lnS g n k :=
  List.map_congr_left fun v _ => lnT_congr h
theorem plE_sq {f : Nat → Nat → Int} {n i : Nat} {z : List (List (List Int))} (h : pln z i = sqTo f n n) {x y : Nat} (hx : x < n) (hy : y < n) : plE z i x y = f x y := by
  unfold plE
  rw [h, row_sqTo hx, nth_rowTo hy]
theorem pomI_eq (n : Nat) (x : List (List (List Int))) : pomL n ([sqTo rwF n n, sqTo clF n n] ++ x) (2 + x.length) = pomI n x := by
  have := pomL_app n [sqTo rwF n n, sqTo clF n n] x x.length
  rw [show ([sqTo rwF n n, sqTo clF n n] : List (List (List Int))).length = 2 from rfl] at this
  rw [this]
  unfold pomI
  congr 1
  rw [show pomL n [sqTo rwF n n, sqTo clF n n] 2 = lnS (plE [sqTo rwF n n, sqTo clF n n] 0) n n ++ lnS (plE [sqTo rwF n n, sqTo clF n n] 1) n n by simp [pomL, List.range_succ]]
  rw [lnS_congr (g := rwF) fun x y hx hy => plE_sq (z := [sqTo rwF n n, sqTo clF n n]) rfl hx hy, lnS_congr (g := clF) fun x y hx hy => plE_sq (z := [sqTo rwF n n, sqTo clF n n]) rfl hx hy]
/-- The lines in the middle of a square: x rows are done, y cells of the next. -/
def lnM (f : Nat → Nat → Int) (n x y : Nat) : List (List Int) := (List.range n).map fun v => lnT f n v x ++ lnX f n v x y
theorem lnM_len (f : Nat → Nat → Int) (n x y : Nat) : (lnM f n x y).length = n := by simp [lnM]
theorem lnM_row (f : Nat → Nat → Int) {n v : Nat} (hv : v < n) (x y : Nat) : row (lnM f n x y) v = lnT f n v x ++ lnX f n v x y := by simp [row, lnM, hv]
theorem lnM_zero (f : Nat → Nat → Int) (n : Nat) : lnM f n 0 0 = List.replicate n [] := by
  apply List.ext_getElem
  · simp [lnM]
  · intro k h1 h2; simp [lnM, lnT, lnX]
theorem lnM_next (f : Nat → Nat → Int) (n x : Nat) : lnM f n x n = lnM f n (x + 1) 0 := by
  unfold lnM
  refine List.map_congr_left fun v _ => ?_
  rw [lnT_succ, show lnX f n v (x + 1) 0 = [] from rfl, List.append_nil]
theorem lnM_all (f : Nat → Nat → Int) (n : Nat) : lnM f n n 0 = lnS f n n := by
  unfold lnM lnS
  refine List.map_congr_left fun v _ => ?_
  rw [show lnX f n v n 0 = [] from rfl, List.append_nil]
theorem lnM_put {f : Nat → Nat → Int} {n x y s : Nat} (hs : f x y = (s : Int)) (hsn : s < n) : (lnM f n x y).set s (row (lnM f n x y) s ++ [((n * x + y : Nat) : Int)]) = lnM f n x (y + 1) := by
  rw [lnM_row f hsn]
  apply List.ext_getElem
  · simp [lnM]
  · intro k h1 h2
    rw [List.getElem_set]
    simp only [lnM, List.getElem_map, List.getElem_range]
    by_cases e : s = k
    · subst e
      rw [if_pos rfl, lnX_hit hs, List.append_assoc]
    · rw [if_neg e, lnX_miss (by rw [hs]; omega)]
theorem lnM_rlen (f : Nat → Nat → Int) {n v x y : Nat} (hv : v < n) (hx : x ≤ n) (hy : y ≤ n) (hn : n ≤ 5) : (row (lnM f n x y) v).length ≤ 40 := by
  rw [lnM_row f hv, List.length_append]
  have h1 := lnX_len f n v x y
  have h2 : (lnT f n v x).length ≤ n * x := by rw [← lnC_all]; exact lnC_len f n v (n * x)
  have h3 : n * x ≤ 5 * 5 := Nat.mul_le_mul hn (by omega)
  omega

/-- A plane of n rows of n symbols each. -/
def PlOk (n : Nat) (p : List (List Int)) : Prop := p.length = n ∧ (∀ u, u < n → (row p u).length = n) ∧ ∀ u y, u < n → y < n → ∃ v : Nat, v < n ∧ nth (row p u) y = (v : Int)
theorem pom_pl {x : List (List (List Int))} (h : molB x = true) : ∀ k, k < x.length → PlOk (pomN x) (pln x k) := fun k hk => by
  have hm := of_decide_eq_true (show decide ((1 ≤ x.length ∧ x.length ≤ 10) ∧ ∀ i, i < x.length → molAt x i i) = true from h)
  have hl : (pln x k).length = pomN x := molAt_len hm.2 hk
  have h2 := sqB_ent (hm.2 k hk).1 hl
  exact ⟨hl, h2.2.1, h2.2.2⟩
theorem sq_pl {n : Nat} {f : Nat → Nat → Int} (h : ∀ u y, u < n → y < n → ∃ v : Nat, v < n ∧ f u y = (v : Int)) : PlOk n (sqTo f n n) :=
  ⟨length_sqTo _ _ _, fun u hu => by rw [row_sqTo hu, length_rowTo], fun u y hu hy => by rw [row_sqTo hu, nth_rowTo hy]; exact h u y hu hy⟩
theorem pz_pl {n : Nat} {x : List (List (List Int))} (h : ∀ k, k < x.length → PlOk n (pln x k)) : ∀ k, k < 2 + x.length → PlOk n (pln ([sqTo rwF n n, sqTo clF n n] ++ x) k) := fun k hk => by
  rcases Nat.lt_or_ge k 2 with h2 | h2
  · rw [pln_app_lt (x := [sqTo rwF n n, sqTo clF n n]) (by simpa using h2)]
    rcases (show k = 0 ∨ k = 1 by omega) with rfl | rfl
    · exact sq_pl fun u y hu _ => ⟨u, hu, rfl⟩
    · exact sq_pl fun u y _ hy => ⟨y, hy, rfl⟩
  · obtain ⟨j, rfl⟩ : ∃ j, k = 2 + j := ⟨k - 2, by omega⟩
    rw [show (2 + j) = ([sqTo rwF n n, sqTo clF n n] : List (List (List Int))).length + j from rfl, pln_app_ge]
    exact h j (by omega)

set_option maxHeartbeats 1000000 in
theorem pom1_c (W : World) (x y : Nat) : Calls Try.prog 21 #[.int .i64 (x : Int), .int .i64 (y : Int)] W (PostV W (.int .i64 (rwF x y))) := by
  go_enter Try.func21, Try.ntmps21
  go_wp2
  go_ret
  exact ⟨rfl, Below.refl _ _⟩
set_option maxHeartbeats 1000000 in
theorem pom2_c (W : World) (x y : Nat) : Calls Try.prog 22 #[.int .i64 (x : Int), .int .i64 (y : Int)] W (PostV W (.int .i64 (clF x y))) := by
  go_enter Try.func22, Try.ntmps22
  go_wp2
  go_ret
  exact ⟨rfl, Below.refl _ _⟩
end Go.Proofs.Ythgbfgdnljgicaa
