/-
  ProductTriples as a plain law: how many blocks a triple system has, the blocks of the product. Conditions: those of each theorem.
-/
import Derived.Test.YtamklliaibfljaaAff
import Derived.Test.YtamklliaibfljaaTrpA
import Derived.Test.YtamklliaibfljaaSmL
namespace Go.Proofs.Ytamklliaibfljaa
set_option linter.unusedVariables false
set_option linter.unusedSimpArgs false

theorem trip_count {P : Nat} {xss : List (List Int)} (h : TripSys P xss) (hP : 1 ≤ P) : P % 2 = 1 ∧ 6 * xss.length = P * (P - 1) := by
  have hlen : ∀ j, j < xss.length → sg (fun x => bn (lnB xss j x)) P = 3 := fun j hj => by
    have hs := h.rows j hj
    exact (sg_mem _ (setB_nodup hs) fun z hz => (setB_iff.1 hs).2.1 z hz).trans (h.three j hj)
  have hone : ∀ x y, x < P → y < P → x ≠ y → sg (fun j => bn (lnB xss j x && lnB xss j y)) xss.length = 1 := fun x y hx hy hne => by
    rcases Nat.lt_or_gt_of_ne hne with e | e
    · rw [← cntP_sg]; exact h.one x y e hy
    · rw [sg_congr (g := fun j => bn (lnB xss j y && lnB xss j x)) (fun j _ => by rw [Bool.and_comm]), ← cntP_sg]; exact h.one y x e hx
  have hr : ∀ x, x < P → 2 * sg (fun j => bn (lnB xss j x)) xss.length = P - 1 := fun x hx => by
    obtain ⟨r, hr⟩ : ∃ r, r = sg (fun j => bn (lnB xss j x)) xss.length := ⟨_, rfl⟩
    rw [← hr]
    have e1 : sg (fun y => sg (fun j => bn (lnB xss j x && lnB xss j y)) xss.length) P = 3 * r := by
      rw [sg_swap (fun j y => bn (lnB xss j x && lnB xss j y)), sg_congr (g := fun j => bn (lnB xss j x) * 3) (fun j hj => by
        rw [sg_congr (g := fun y => bn (lnB xss j x) * bn (lnB xss j y)) (fun y _ => bn_and _ _), sg_mul, hlen j hj]), sg_mulr, ← hr, Nat.mul_comm]
    have e2 : sg (fun y => sg (fun j => bn (lnB xss j x && lnB xss j y)) xss.length + (if y = x then 1 else 0)) P = sg (fun y => 1 + (if y = x then r else 0)) P := sg_congr fun y hy => by
      by_cases e : y = x
      · subst e
        rw [if_pos rfl, if_pos rfl, sg_congr (g := fun j => bn (lnB xss j y)) (fun j _ => by rw [Bool.and_self]), ← hr]; omega
      · rw [if_neg e, if_neg e, hone x y hx hy (fun e' => e e'.symm)]
    rw [sg_add, sg_add, e1, sg_const, sg_only (g := fun y => if y = x then 1 else 0) hx (fun j _ hj => if_neg hj), sg_only (g := fun y => if y = x then r else 0) hx (fun j _ hj => if_neg hj), if_pos rfl, if_pos rfl] at e2
    omega
  refine ⟨by have := hr 0 (by omega); omega, ?_⟩
  have e1 : sg (fun x => 2 * sg (fun j => bn (lnB xss j x)) xss.length) P = P * (P - 1) := by rw [sg_congr hr, sg_const]
  rw [sg_mul, sg_swap (fun j x => bn (lnB xss j x)), sg_congr (g := fun _ => 3) (fun j hj => hlen j hj), sg_const] at e1
  omega

/-- The permutation of three points with a rank. -/
def un3 (r : Nat) : List Int := match r with | 0 => [0, 1, 2] | 1 => [0, 2, 1] | 2 => [1, 0, 2] | 3 => [1, 2, 0] | 4 => [2, 0, 1] | _ => [2, 1, 0]
def un (r i : Nat) : Nat := sN (un3 r) i
/-- A block times a point. -/
def pdA (n : Nat) (x : List Int) (y : Nat) : List Int := trp ((n * sN x 0 + y : Nat)) ((n * sN x 1 + y : Nat)) ((n * sN x 2 + y : Nat))
/-- A block times a block, in one of six ways. -/
def pdB (n : Nat) (x y : List Int) (r : Nat) : List Int := trp ((n * sN x 0 + sN y (un r 0) : Nat)) ((n * sN x 1 + sN y (un r 1) : Nat)) ((n * sN x 2 + sN y (un r 2) : Nat))
/-- A point times a block. -/
def pdC (n x : Nat) (y : List Int) : List Int := trp ((n * x + sN y 0 : Nat)) ((n * x + sN y 1 : Nat)) ((n * x + sN y 2 : Nat))
def pdAs (n : Nat) (x : List Int) (k : Nat) : List (List Int) := (List.range k).map (pdA n x)
def pdBr (n : Nat) (x y : List Int) (k : Nat) : List (List Int) := (List.range k).map (pdB n x y)
def pdBs (n : Nat) (x : List Int) (ys : List (List Int)) (k : Nat) : List (List Int) := (List.range k).flatMap fun j => pdBr n x (row ys j) 6
def pdX (n : Nat) (xs ys : List (List Int)) (k : Nat) : List (List Int) := (List.range k).flatMap fun i => pdAs n (row xs i) n ++ pdBs n (row xs i) ys ys.length
def pdCr (n x : Nat) (ys : List (List Int)) (k : Nat) : List (List Int) := (List.range k).map fun j => pdC n x (row ys j)
def pdCs (n : Nat) (ys : List (List Int)) (k : Nat) : List (List Int) := (List.range k).flatMap fun x => pdCr n x ys ys.length
def pdDr (n : Nat) (y : List Int) (k : Nat) : List (List Int) := (List.range k).map fun x => pdC n x y
def pdDs (n m : Nat) (ys : List (List Int)) (k : Nat) : List (List Int) := (List.range k).flatMap fun j => pdDr n (row ys j) m
theorem pdAs_succ (n : Nat) (x : List Int) (k : Nat) : pdAs n x (k + 1) = pdAs n x k ++ [pdA n x k] := by simp [pdAs, List.range_succ]
theorem pdBr_succ (n : Nat) (x y : List Int) (k : Nat) : pdBr n x y (k + 1) = pdBr n x y k ++ [pdB n x y k] := by simp [pdBr, List.range_succ]
theorem pdBs_succ (n : Nat) (x : List Int) (ys : List (List Int)) (k : Nat) : pdBs n x ys (k + 1) = pdBs n x ys k ++ pdBr n x (row ys k) 6 := by simp [pdBs, List.range_succ]
theorem pdX_succ (n : Nat) (xs ys : List (List Int)) (k : Nat) : pdX n xs ys (k + 1) = pdX n xs ys k ++ (pdAs n (row xs k) n ++ pdBs n (row xs k) ys ys.length) := by simp [pdX, List.range_succ]
theorem pdCr_succ (n x : Nat) (ys : List (List Int)) (k : Nat) : pdCr n x ys (k + 1) = pdCr n x ys k ++ [pdC n x (row ys k)] := by simp [pdCr, List.range_succ]
theorem pdCs_succ (n : Nat) (ys : List (List Int)) (k : Nat) : pdCs n ys (k + 1) = pdCs n ys k ++ pdCr n k ys ys.length := by simp [pdCs, List.range_succ]
theorem pdDr_succ (n : Nat) (y : List Int) (k : Nat) : pdDr n y (k + 1) = pdDr n y k ++ [pdC n k y] := by simp [pdDr, List.range_succ]
theorem pdDs_succ (n m : Nat) (ys : List (List Int)) (k : Nat) : pdDs n m ys (k + 1) = pdDs n m ys k ++ pdDr n (row ys k) m := by simp [pdDs, List.range_succ]
theorem pdBr_cnt (n : Nat) (x y : List Int) (k : Nat) : (pdBr n x y k).length = k := by simp [pdBr]
theorem pdAs_cnt (n : Nat) (x : List Int) (k : Nat) : (pdAs n x k).length = k := by simp [pdAs]
theorem pdBs_cnt (n : Nat) (x : List Int) (ys : List (List Int)) (k : Nat) : (pdBs n x ys k).length = 6 * k := by
  induction k with
  | zero => rfl
  | succ k ih => rw [pdBs_succ, List.length_append, ih, pdBr_cnt]; omega
theorem pdX_cnt (n : Nat) (xs ys : List (List Int)) (k : Nat) : (pdX n xs ys k).length = k * (n + 6 * ys.length) := by
  induction k with
  | zero => simp [pdX]
  | succ k ih => rw [pdX_succ, List.length_append, ih, List.length_append, pdAs_cnt, pdBs_cnt, ← Nat.succ_mul]
theorem pdCr_cnt (n x : Nat) (ys : List (List Int)) (k : Nat) : (pdCr n x ys k).length = k := by simp [pdCr]
theorem pdCs_cnt (n : Nat) (ys : List (List Int)) (k : Nat) : (pdCs n ys k).length = k * ys.length := by
  induction k with
  | zero => simp [pdCs]
  | succ k ih => rw [pdCs_succ, List.length_append, ih, pdCr_cnt, Nat.succ_mul]
/-- The two orders of the last blocks. -/
theorem flatMap_snoc_perm {α β : Type} (l : List α) (f : α → List β) (g : α → β) : (l.flatMap fun x => f x ++ [g x]).Perm (l.flatMap f ++ l.map g) := by
  induction l with
  | nil => exact List.Perm.refl _
  | cons a l ih =>
    simp only [List.flatMap_cons, List.map_cons, List.append_assoc]
    refine List.Perm.append_left _ ?_
    refine (List.Perm.append_left _ ih).trans ?_
    rw [List.singleton_append]
    refine List.Perm.trans ?_ (List.perm_middle.symm)
    exact List.Perm.refl _
theorem pdCs_perm (n m : Nat) (ys : List (List Int)) (k : Nat) : (pdDs n m ys k).Perm ((List.range m).flatMap fun x => pdCr n x ys k) := by
  induction k with
  | zero =>
    have : ((List.range m).flatMap fun x => pdCr n x ys 0) = [] := List.flatMap_eq_nil_iff.2 fun x _ => rfl
    rw [this]; exact List.Perm.refl _
  | succ k ih =>
    rw [pdDs_succ]
    refine (List.Perm.append_right _ ih).trans ?_
    simp only [pdCr_succ]
    exact (flatMap_snoc_perm (List.range m) (fun x => pdCr n x ys k) (fun x => pdC n x (row ys k))).symm
theorem pd_perm (n m : Nat) (xs ys : List (List Int)) : (pdX n xs ys xs.length ++ pdDs n m ys ys.length).Perm (pdX n xs ys xs.length ++ pdCs n ys m) :=
  List.Perm.append_left _ (pdCs_perm n m ys ys.length)
/-- How many blocks the product has. -/
theorem pd_small {m n : Nat} {xs ys : List (List Int)} (hx : TripSys m xs) (hy : TripSys n ys) (hm : 3 ≤ m) (hn : 3 ≤ n) (h : m * n ≤ 32) : xs.length * (n + 6 * ys.length) + m * ys.length ≤ 128 ∧ m * n * (m * n - 1) ≤ 128 * 6 := by
  obtain ⟨o1, c1⟩ := trip_count hx (by omega)
  obtain ⟨o2, c2⟩ := trip_count hy (by omega)
  have hm9 : m ≤ 10 := by
    rcases Nat.lt_or_ge 10 m with e | e
    · have := Nat.mul_le_mul (show 11 ≤ m by omega) hn; omega
    · exact e
  have hn9 : n ≤ 10 := by
    rcases Nat.lt_or_ge 10 n with e | e
    · have := Nat.mul_le_mul hm (show 11 ≤ n by omega); omega
    · exact e
  generalize xs.length = a at *
  generalize ys.length = b at *
  clear hx hy
  rcases (show m = 3 ∨ m = 5 ∨ m = 7 ∨ m = 9 by omega) with rfl | rfl | rfl | rfl <;> rcases (show n = 3 ∨ n = 5 ∨ n = 7 ∨ n = 9 by omega) with rfl | rfl | rfl | rfl <;> (try omega)
  all_goals
    first
    | (have ha : a = 1 := by omega
       have hb : b = 1 := by omega
       subst ha hb; decide)
    | (have ha : a = 1 := by omega
       have hb : b = 7 := by omega
       subst ha hb; decide)
    | (have ha : a = 7 := by omega
       have hb : b = 1 := by omega
       subst ha hb; decide)
    | (have ha : a = 1 := by omega
       have hb : b = 12 := by omega
       subst ha hb; decide)
    | (have ha : a = 12 := by omega
       have hb : b = 1 := by omega
       subst ha hb; decide)
end Go.Proofs.Ytamklliaibfljaa
