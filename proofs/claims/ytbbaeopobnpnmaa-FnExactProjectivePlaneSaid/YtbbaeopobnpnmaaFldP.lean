/-
  Arithmetic of finite fields as a plain law: digits, numbers, remainders of polynomials, products, sums. No program in sight. Conditions: those of each theorem.
-/
import Derived.Test.YtbbaeopobnpnmaaMem
namespace Go.Proofs.Ytbbaeopobnpnmaa
open Go.RowKit
set_option linter.unusedVariables false
set_option linter.unusedSimpArgs false

/-- a divided k times by p. -/
def dv (p a : Nat) : Nat → Nat
  | 0 => a
  | k + 1 => dv p a k / p
def dg (p a k : Nat) : Int := ((dv p a k % p : Nat) : Int)
/-- The n lowest digits of a to the base p. -/
def digL (p a n : Nat) : List Int := (List.range n).map (dg p a)
theorem digL_len (p a n : Nat) : (digL p a n).length = n := by simp [digL]
theorem digL_succ (p a n : Nat) : digL p a (n + 1) = digL p a n ++ [dg p a n] := by simp [digL, List.range_succ]
theorem nth_digL {p a n k : Nat} (h : k < n) : nth (digL p a n) k = dg p a k := by simp [nth, digL, h]
theorem dv_le (p a k : Nat) : dv p a k ≤ a := by
  induction k with
  | zero => exact Nat.le_refl _
  | succ k ih => exact Nat.le_trans (Nat.div_le_self _ _) ih
/-- Every number of a list lies from 0 up to p. -/
def InP (p : Nat) (xs : List Int) : Prop := ∀ k, k < xs.length → 0 ≤ nth xs k ∧ nth xs k < (p : Int)
theorem dg_in {p : Nat} (h : 0 < p) (a k : Nat) : 0 ≤ dg p a k ∧ dg p a k < (p : Int) := by
  unfold dg
  have := Nat.mod_lt (dv p a k) h
  omega
theorem InP.dig {p : Nat} (h : 0 < p) (a n : Nat) : InP p (digL p a n) := fun k hk => by
  rw [digL_len] at hk
  rw [nth_digL hk]
  exact dg_in h a k
theorem nth_app_lt {xs ys : List Int} {k : Nat} (h : k < xs.length) : nth (xs ++ ys) k = nth xs k := by simp [nth, List.getElem?_append_left h]
theorem nth_app_eq {xs : List Int} {y : Int} : nth (xs ++ [y]) xs.length = y := by simp [nth]
theorem nthF_set {xs : List Int} {i k : Nat} (hk : k < xs.length) (y : Int) : nth (xs.set i y) k = if k = i then y else nth xs k := by
  by_cases e : k = i
  · subst e; simp [nth, hk]
  · rw [if_neg e]; simp [nth, List.getElem?_set_ne (fun e' => e e'.symm)]
theorem nth_ge {xs : List Int} {k : Nat} (h : xs.length ≤ k) : nth xs k = 0 := by simp [nth, h]
theorem InP.snoc {p : Nat} {xs : List Int} (h : InP p xs) {y : Int} (hy : 0 ≤ y ∧ y < (p : Int)) : InP p (xs ++ [y]) := fun k hk => by
  rw [List.length_append, List.length_singleton] at hk
  by_cases e : k < xs.length
  · rw [nth_app_lt e]; exact h k e
  · obtain rfl : k = xs.length := by omega
    rw [nth_app_eq]; exact hy
theorem InP.set {p : Nat} {xs : List Int} (h : InP p xs) (i : Nat) {y : Int} (hy : 0 ≤ y ∧ y < (p : Int)) : InP p (xs.set i y) := fun k hk => by
  rw [List.length_set] at hk
  rw [nthF_set hk]
  split
  · exact hy
  · exact h k hk
theorem InP.zeros {p : Nat} (h : 0 < p) (n : Nat) : InP p (List.replicate n 0) := fun k hk => by
  rw [List.length_replicate] at hk
  simp [nth, hk]; omega
theorem nthF_take {xs : List Int} {m k : Nat} (h : k < m) : nth (xs.take m) k = nth xs k := by simp [nth, List.getElem?_take, h]
theorem InP.take {p : Nat} {xs : List Int} (h : InP p xs) (m : Nat) : InP p (xs.take m) := fun k hk => by
  rw [List.length_take] at hk
  rw [nthF_take (by omega)]
  exact h k (by omega)
theorem mod_in {p : Nat} (h : 0 < p) (z : Int) : 0 ≤ z % (p : Int) ∧ z % (p : Int) < (p : Int) := ⟨Int.emod_nonneg _ (by omega), Int.emod_lt_of_pos _ (by omega)⟩

/-- The number with some digits. -/
def num (p : Nat) (xs : List Int) : Int := xs.foldr (fun x acc => acc * (p : Int) + x) 0
theorem num_nil (p : Nat) : num p [] = 0 := rfl
theorem num_cons (p : Nat) (x : Int) (xs : List Int) : num p (x :: xs) = num p xs * (p : Int) + x := rfl
theorem num_drop {p k : Nat} {xs : List Int} (h : k < xs.length) : num p (xs.drop k) = num p (xs.drop (k + 1)) * (p : Int) + nth xs k := by
  rw [List.drop_eq_getElem_cons h, num_cons, nth_eq h]
theorem num_in {p : Nat} : ∀ {xs : List Int}, InP p xs → 0 ≤ num p xs ∧ num p xs + 1 ≤ ((p ^ xs.length : Nat) : Int) := by
  intro xs
  induction xs with
  | nil => intro _; simp [num]
  | cons x xs ih =>
    intro h
    have h1 := ih (fun k hk => by have := h (k + 1) (by simp; omega); simpa [nth] using this)
    have h0 := h 0 (by simp)
    have h0 : 0 ≤ x ∧ x < (p : Int) := by simpa [nth] using h0
    rw [num_cons, List.length_cons, Nat.pow_succ, Int.natCast_mul]
    obtain ⟨q, hq⟩ : ∃ q : Int, q = ((p ^ xs.length : Nat) : Int) := ⟨_, rfl⟩
    rw [← hq] at h1 ⊢
    have h2 : (num p xs + 1) * (p : Int) ≤ q * (p : Int) := Int.mul_le_mul_of_nonneg_right h1.2 (by omega)
    rw [Int.add_mul] at h2
    have h3 : 0 ≤ num p xs * (p : Int) := Int.mul_nonneg h1.1 (by omega)
    constructor <;> omega
theorem InP.drop {p : Nat} {xs : List Int} (h : InP p xs) (m : Nat) : InP p (xs.drop m) := fun k hk => by
  rw [List.length_drop] at hk
  have := h (m + k) (by omega)
  simpa [nth, List.getElem?_drop] using this
theorem num_small {p : Nat} (hp : 0 < p) {xs : List Int} (h : InP p xs) {B : Nat} (hB : p ^ xs.length ≤ B) (k : Nat) : 0 ≤ num p (xs.drop k) ∧ num p (xs.drop k) < (B : Int) := by
  have h1 := num_in (h.drop k)
  have h2 : p ^ (xs.drop k).length ≤ p ^ xs.length := Nat.pow_le_pow_right hp (by rw [List.length_drop]; omega)
  omega
/-- A number is 0 if all its digits are. -/
theorem num_zero {p : Nat} (hp : 0 < p) : ∀ {xs : List Int}, InP p xs → (num p xs = 0 ↔ ∀ k, k < xs.length → nth xs k = 0) := by
  intro xs
  induction xs with
  | nil => intro _; simp [num]
  | cons x xs ih =>
    intro h
    have ht : InP p xs := fun k hk => by have := h (k + 1) (by simp; omega); simpa [nth] using this
    have h1 := num_in ht
    have h0 : 0 ≤ x ∧ x < (p : Int) := by have := h 0 (by simp); simpa [nth] using this
    rw [num_cons]
    have h3 : 0 ≤ num p xs * (p : Int) := Int.mul_nonneg h1.1 (by omega)
    constructor
    · intro e
      have e2 : num p xs = 0 := by
        rcases Int.lt_or_le 0 (num p xs) with hl | hl
        · have : 0 < num p xs * (p : Int) := Int.mul_pos hl (by omega)
          omega
        · omega
      have e1 : x = 0 := by rw [e2] at e; simpa using e
      intro k hk
      rcases k with _ | k
      · simpa [nth] using e1
      · have := (ih ht).1 e2 k (by simp at hk; omega)
        simpa [nth] using this
    · intro hz
      have e1 : x = 0 := by have := hz 0 (by simp); simpa [nth] using this
      have e2 := (ih ht).2 fun k hk => by have := hz (k + 1) (by simp; omega); simpa [nth] using this
      rw [e1, e2]; simp

/-- j steps of the inner loop of a division: f times the divisor is taken off from place b on. -/
def rmI (p : Nat) (by_ : List Int) (f : Int) (b : Nat) (r : List Int) : Nat → List Int
  | 0 => r
  | j + 1 => (rmI p by_ f b r j).set (b + j) ((nth (rmI p by_ f b r j) (b + j) - f * nth by_ j) % (p : Int))
theorem rmI_len (p : Nat) (by_ : List Int) (f : Int) (b : Nat) (r : List Int) (j : Nat) : (rmI p by_ f b r j).length = r.length := by
  induction j with
  | zero => rfl
  | succ j ih => rw [rmI, List.length_set, ih]
theorem rmI_in {p : Nat} (hp : 0 < p) {by_ : List Int} {f : Int} {b : Nat} {r : List Int} (h : InP p r) (j : Nat) : InP p (rmI p by_ f b r j) := by
  induction j with
  | zero => exact h
  | succ j ih => exact ih.set _ (mod_in hp _)
/-- s steps of the outer loop: d is the divisor's degree, the place goes down. -/
def rmO (p : Nat) (by_ : List Int) (d : Nat) (r : List Int) : Nat → List Int
  | 0 => r
  | s + 1 => rmI p by_ (nth (rmO p by_ d r s) (r.length - 1 - s)) (r.length - 1 - s - d) (rmO p by_ d r s) (d + 1)
theorem rmO_len (p : Nat) (by_ : List Int) (d : Nat) (r : List Int) (s : Nat) : (rmO p by_ d r s).length = r.length := by
  induction s with
  | zero => rfl
  | succ s ih => rw [rmO, rmI_len, ih]
theorem rmO_in {p : Nat} (hp : 0 < p) {by_ : List Int} {d : Nat} {r : List Int} (h : InP p r) (s : Nat) : InP p (rmO p by_ d r s) := by
  induction s with
  | zero => exact h
  | succ s ih => exact rmI_in hp ih _
/-- The remainder by a divisor of degree d. -/
def rem (p : Nat) (by_ : List Int) (d : Nat) (r : List Int) : List Int := (rmO p by_ d r (r.length - d)).take d
theorem rem_len (p : Nat) (by_ : List Int) (d : Nat) (r : List Int) : (rem p by_ d r).length = min d r.length := by unfold rem; rw [List.length_take, rmO_len]
theorem rem_in {p : Nat} (hp : 0 < p) {by_ : List Int} {d : Nat} {r : List Int} (h : InP p r) : InP p (rem p by_ d r) := (rmO_in hp h _).take _
/-- A leading 0 changes nothing. -/
theorem rmI_zero {p : Nat} (hp : 0 < p) {by_ : List Int} {b : Nat} {r : List Int} (h : InP p r) (j : Nat) (hj : b + j ≤ r.length) : rmI p by_ 0 b r j = r := by
  induction j with
  | zero => rfl
  | succ j ih =>
    rw [rmI, ih (by omega)]
    have hk := h (b + j) (by omega)
    have e : (nth r (b + j) - 0 * nth by_ j) % (p : Int) = nth r (b + j) := by
      rw [Int.zero_mul, Int.sub_zero]
      exact Int.emod_eq_of_lt hk.1 hk.2
    rw [e]
    apply List.ext_getElem
    · simp
    · intro i h1 h2
      rw [List.getElem_set]
      split
      · next e2 => subst e2; rw [nth_eq h2]
      · rfl
theorem set_app {xs : List Int} {i : Nat} (h : i < xs.length) (y z : Int) : (xs ++ [z]).set i y = xs.set i y ++ [z] := by rw [List.set_append_left _ _ h]
theorem rmI_app {p : Nat} {by_ : List Int} {f : Int} {b : Nat} {r : List Int} (z : Int) (j : Nat) (hj : b + j ≤ r.length) : rmI p by_ f b (r ++ [z]) j = rmI p by_ f b r j ++ [z] := by
  induction j with
  | zero => rfl
  | succ j ih =>
    rw [rmI, rmI, ih (by omega), nth_app_lt (by rw [rmI_len]; omega), set_app (by rw [rmI_len]; omega)]
theorem rmO_app {p : Nat} (hp : 0 < p) {by_ : List Int} {d : Nat} {r : List Int} (h : InP p r) (hd : d ≤ r.length) (s : Nat) (hs : s ≤ r.length - d) : rmO p by_ d (r ++ [0]) (s + 1) = rmO p by_ d r s ++ [0] := by
  induction s with
  | zero =>
    have hin : InP p (r ++ [0]) := h.snoc (by omega)
    rw [rmO, rmO, rmO]
    rw [show (r ++ [(0 : Int)]).length - 1 - 0 = r.length by simp, nth_app_eq]
    exact rmI_zero hp hin _ (by simp; omega)
  | succ s ih =>
    rw [rmO, ih (by omega), rmO]
    rw [show (r ++ [(0 : Int)]).length - 1 - (s + 1) = r.length - 1 - s by simp; omega]
    rw [nth_app_lt (by rw [rmO_len]; omega)]
    exact rmI_app 0 _ (by rw [rmO_len]; omega)
theorem rem_app {p : Nat} (hp : 0 < p) {by_ : List Int} {d : Nat} {r : List Int} (h : InP p r) (hd : d ≤ r.length) : rem p by_ d (r ++ [0]) = rem p by_ d r := by
  unfold rem
  rw [show (r ++ [(0 : Int)]).length - d = (r.length - d) + 1 by simp; omega, rmO_app hp h hd _ (Nat.le_refl _), List.take_append_of_le_length (by rw [rmO_len]; exact hd)]

/-- j steps of the inner loop of a product. -/
def mlI (p : Nat) (xs ys : List Int) (i : Nat) (z : List Int) : Nat → List Int
  | 0 => z
  | j + 1 => (mlI p xs ys i z j).set (i + j) ((nth (mlI p xs ys i z j) (i + j) + nth xs i * nth ys j) % (p : Int))
theorem mlI_len (p : Nat) (xs ys : List Int) (i : Nat) (z : List Int) (j : Nat) : (mlI p xs ys i z j).length = z.length := by
  induction j with
  | zero => rfl
  | succ j ih => rw [mlI, List.length_set, ih]
theorem mlI_in {p : Nat} (hp : 0 < p) {xs ys : List Int} {i : Nat} {z : List Int} (h : InP p z) (j : Nat) : InP p (mlI p xs ys i z j) := by
  induction j with
  | zero => exact h
  | succ j ih => exact ih.set _ (mod_in hp _)
def mlO (p : Nat) (xs ys : List Int) (z : List Int) : Nat → List Int
  | 0 => z
  | i + 1 => mlI p xs ys i (mlO p xs ys z i) ys.length
theorem mlO_len (p : Nat) (xs ys : List Int) (z : List Int) (i : Nat) : (mlO p xs ys z i).length = z.length := by
  induction i with
  | zero => rfl
  | succ i ih => rw [mlO, mlI_len, ih]
theorem mlO_in {p : Nat} (hp : 0 < p) {xs ys : List Int} {z : List Int} (h : InP p z) (i : Nat) : InP p (mlO p xs ys z i) := by
  induction i with
  | zero => exact h
  | succ i ih => exact mlI_in hp ih _
theorem mlI_app {p : Nat} {xs ys : List Int} {i : Nat} {z : List Int} (y : Int) (j : Nat) (hj : i + j ≤ z.length) : mlI p xs ys i (z ++ [y]) j = mlI p xs ys i z j ++ [y] := by
  induction j with
  | zero => rfl
  | succ j ih => rw [mlI, mlI, ih (by omega), nth_app_lt (by rw [mlI_len]; omega), set_app (by rw [mlI_len]; omega)]
theorem mlO_app {p : Nat} {xs ys : List Int} {z : List Int} (y : Int) (i : Nat) (hi : i + ys.length ≤ z.length + 1) : mlO p xs ys (z ++ [y]) i = mlO p xs ys z i ++ [y] := by
  induction i with
  | zero => rfl
  | succ i ih => rw [mlO, mlO, ih (by omega)]; exact mlI_app y _ (by rw [mlO_len]; omega)
/-- The product of two elements as a number. -/
def mulL (p k : Nat) (poly : List Int) (a b : Nat) : List Int := rem p poly k (mlO p (digL p a k) (digL p b k) (List.replicate (2 * k - 1) 0) k)
theorem mulL_wide {p k : Nat} (hp : 0 < p) (hk : 0 < k) (poly : List Int) (a b : Nat) : rem p poly k (mlO p (digL p a k) (digL p b k) (List.replicate (2 * k) 0) k) = mulL p k poly a b := by
  have e : List.replicate (2 * k) (0 : Int) = List.replicate (2 * k - 1) 0 ++ [0] := by
    rw [show 2 * k = (2 * k - 1) + 1 by omega, List.replicate_succ', show 2 * k - 1 + 1 - 1 = 2 * k - 1 by omega]
  unfold mulL
  rw [e, mlO_app 0 k (by rw [digL_len, List.length_replicate]; omega)]
  exact rem_app hp (mlO_in hp (InP.zeros hp _) _) (by rw [mlO_len, List.length_replicate]; omega)
theorem mulL_len {p k : Nat} (hk : 0 < k) (poly : List Int) (a b : Nat) : (mulL p k poly a b).length = k := by unfold mulL; rw [rem_len, mlO_len, List.length_replicate]; omega
theorem mulL_in {p k : Nat} (hp : 0 < p) (poly : List Int) (a b : Nat) : InP p (mulL p k poly a b) := rem_in hp (mlO_in hp (InP.zeros hp _) _)
def mulF (p k : Nat) (poly : List Int) (a b : Nat) : Nat := (num p (mulL p k poly a b)).toNat
theorem mulF_eq {p k : Nat} (hp : 0 < p) (hk : 0 < k) (poly : List Int) (a b : Nat) : num p (mulL p k poly a b) = ((mulF p k poly a b : Nat) : Int) ∧ mulF p k poly a b < p ^ k := by
  have h := num_in (mulL_in (k := k) hp poly a b)
  rw [mulL_len hk] at h
  unfold mulF
  constructor <;> omega
/-- a plus s times b. -/
def cmb (p : Nat) (s : Int) (xs ys : List Int) (n : Nat) : List Int := (List.range n).map fun i => (nth xs i + s * nth ys i) % (p : Int)
def cmbL (p k : Nat) (s : Int) (a b : Nat) : List Int := cmb p s (digL p a k) (digL p b k) k
/-- What the loop has behind j steps. -/
def cmbT (p : Nat) (s : Int) (xs ys : List Int) (j : Nat) : List Int := cmb p s xs ys j ++ xs.drop j
theorem cmb_len (p : Nat) (s : Int) (xs ys : List Int) (n : Nat) : (cmb p s xs ys n).length = n := by simp [cmb]
theorem cmbT_len {p : Nat} {s : Int} {xs ys : List Int} {j : Nat} (h : j ≤ xs.length) : (cmbT p s xs ys j).length = xs.length := by unfold cmbT; rw [List.length_append, cmb_len, List.length_drop]; omega
theorem cmbT_zero (p : Nat) (s : Int) (xs ys : List Int) : cmbT p s xs ys 0 = xs := by simp [cmbT, cmb]
theorem cmbT_all {p : Nat} {s : Int} {xs ys : List Int} {n : Nat} (h : xs.length = n) : cmbT p s xs ys n = cmb p s xs ys n := by unfold cmbT; rw [List.drop_of_length_le (by omega), List.append_nil]
theorem cmbT_nth {p : Nat} {s : Int} {xs ys : List Int} {j : Nat} (h : j < xs.length) : nth (cmbT p s xs ys j) j = nth xs j := by
  simp [nth, cmbT, List.getElem?_append_right, cmb_len, List.getElem?_drop]
theorem cmbT_succ {p : Nat} {s : Int} {xs ys : List Int} {j : Nat} (h : j < xs.length) : (cmbT p s xs ys j).set j ((nth xs j + s * nth ys j) % (p : Int)) = cmbT p s xs ys (j + 1) := by
  unfold cmbT
  rw [List.set_append_right _ _ (by rw [cmb_len]; omega), cmb_len, Nat.sub_self, List.drop_eq_getElem_cons h, List.set_cons_zero]
  simp [cmb, List.range_succ]
theorem cmb_in {p : Nat} (hp : 0 < p) (s : Int) (xs ys : List Int) (n : Nat) : InP p (cmb p s xs ys n) := fun k hk => by
  rw [cmb_len] at hk
  simp only [nth, cmb, List.getElem?_map, List.getElem?_range hk, Option.map_some, Option.getD_some]
  exact mod_in hp _
/-- Signs that are one modulo p give one sum. -/
theorem cmb_sign {p : Nat} (xs ys : List Int) (n : Nat) : cmb p ((p : Int) - 1) xs ys n = cmb p (-1) xs ys n := by
  unfold cmb
  refine List.map_congr_left fun i _ => ?_
  rw [show nth xs i + ((p : Int) - 1) * nth ys i = (nth xs i + -1 * nth ys i) + (p : Int) * nth ys i by rw [Int.sub_mul, Int.neg_mul]; omega, Int.add_mul_emod_self_left]
def cmbF (p k : Nat) (s : Int) (a b : Nat) : Nat := (num p (cmbL p k s a b)).toNat
theorem cmbF_eq {p k : Nat} (hp : 0 < p) (s : Int) (a b : Nat) : num p (cmbL p k s a b) = ((cmbF p k s a b : Nat) : Int) ∧ cmbF p k s a b < p ^ k := by
  have h := num_in (cmb_in hp s (digL p a k) (digL p b k) k)
  rw [cmb_len] at h
  unfold cmbF cmbL
  constructor <;> omega
theorem cmbF_sign (p k a b : Nat) : cmbF p k ((p : Int) - 1) a b = cmbF p k (-1) a b := by unfold cmbF cmbL; rw [cmb_sign]

/-- Whether a polynomial of degree k has no divisor of a lesser degree. -/
def divB (p k : Nat) (poly : List Int) (d n : Nat) : Bool := decide (num p (rem p (digL p n d ++ [1]) d poly) = 0)
def irrB (p k : Nat) (poly : List Int) : Bool := (List.range (k / 2)).all fun i => (List.range (p ^ (i + 1))).all fun n => !divB p k poly (i + 1) n
theorem irrB_true {p k : Nat} {poly : List Int} : irrB p k poly = true ↔ ∀ d, 1 ≤ d → 2 * d ≤ k → ∀ n, n < p ^ d → divB p k poly d n = false := by
  unfold irrB
  rw [List.all_eq_true]
  constructor
  · intro h d h1 h2 n hn
    have := h (d - 1) (List.mem_range.2 (by omega))
    rw [List.all_eq_true, show d - 1 + 1 = d by omega] at this
    simpa using this n (List.mem_range.2 hn)
  · intro h i hi
    rw [List.all_eq_true]
    intro n hn
    have hi := List.mem_range.1 hi
    simpa using h (i + 1) (by omega) (by omega) n (List.mem_range.1 hn)
/-- The polynomial with number n, and the first one without divisors. -/
def poN (p k n : Nat) : List Int := digL p n k ++ [1]
def leN (p k : Nat) : Nat := ((List.range 64).find? fun n => irrB p k (poN p k n)).getD 0
theorem poN_len (p k n : Nat) : (poN p k n).length = k + 1 := by unfold poN; rw [List.length_append, digL_len]; rfl
theorem poN_in {p : Nat} (h : 2 ≤ p) (k n : Nat) : InP p (poN p k n) := (InP.dig (by omega) n k).snoc (by omega)
/-- Sizes of fields. -/
def FldOk (p k : Nat) : Prop := 2 ≤ p ∧ p ≤ 64 ∧ 1 ≤ k ∧ k ≤ 6 ∧ p ^ k ≤ 64
theorem irr_one (p : Nat) (poly : List Int) : irrB p 1 poly = true := by simp [irrB]
def irrHas (p k : Nat) : Bool := (List.range 64).any fun n => irrB p k (poN p k n)
theorem irr_has {p k : Nat} (h : FldOk p k) (hp : k = 1 ∨ p = 2 ∨ p = 3 ∨ p = 5 ∨ p = 7) : irrHas p k = true := by
  obtain ⟨h1, h2, h3, h4, h5⟩ := h
  rcases Nat.lt_or_ge 1 k with hk | hk
  · have hc : (p = 2 ∧ (k = 2 ∨ k = 3 ∨ k = 4 ∨ k = 5 ∨ k = 6)) ∨ (p = 3 ∧ (k = 2 ∨ k = 3)) ∨ (p = 5 ∧ k = 2) ∨ (p = 7 ∧ k = 2) := by
      have hk6 : k = 2 ∨ k = 3 ∨ k = 4 ∨ k = 5 ∨ k = 6 := by omega
      rcases hp with e | e | e | e | e
      · omega
      all_goals
        subst e
        rcases hk6 with e | e | e | e | e <;> subst e <;> simp at h5 <;> simp
    rcases hc with ⟨rfl, rfl | rfl | rfl | rfl | rfl⟩ | ⟨rfl, rfl | rfl⟩ | ⟨rfl, rfl⟩ | ⟨rfl, rfl⟩ <;> decide +kernel
  · obtain rfl : k = 1 := by omega
    unfold irrHas
    rw [List.any_eq_true]
    exact ⟨0, by simp, irr_one _ _⟩
theorem leN_spec {p k : Nat} (h : irrHas p k = true) : leN p k < 64 ∧ irrB p k (poN p k (leN p k)) = true ∧ ∀ n, n < leN p k → irrB p k (poN p k n) = false := by
  unfold irrHas at h
  rw [List.any_eq_true] at h
  obtain ⟨m, hm, hq⟩ := h
  unfold leN
  rcases hf : (List.range 64).find? fun n => irrB p k (poN p k n) with _ | n
  · have := List.find?_eq_none.1 hf m hm
    simp [hq] at this
  · obtain ⟨h1, us, vs, e, h2⟩ := List.find?_eq_some_iff_append.1 hf
    have hmem : n ∈ List.range 64 := by rw [e]; simp
    refine ⟨List.mem_range.1 hmem, h1, fun j hj => ?_⟩
    simp only [Option.getD_some] at hj
    have hn := List.mem_range.1 hmem
    have hlen : us.length = n := by
      have h3 : (List.range 64)[us.length]? = some n := by rw [e]; simp
      rw [List.getElem?_eq_some_iff] at h3
      obtain ⟨h4, h5⟩ := h3
      rw [List.getElem_range] at h5
      exact h5
    have hj2 : j ∈ us := by
      have h3 : (List.range 64)[j]? = some j := by rw [List.getElem?_range (by omega)]
      rw [e, List.getElem?_append_left (by omega)] at h3
      exact List.mem_of_getElem? h3
    have := h2 j hj2
    simpa using this
end Go.Proofs.Ytbbaeopobnpnmaa
