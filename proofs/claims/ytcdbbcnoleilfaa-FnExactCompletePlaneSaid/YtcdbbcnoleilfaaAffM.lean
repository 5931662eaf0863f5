/-
  MolsOfPlane as a plain law: the square of a class. Conditions: those of each theorem.
-/
import Derived.Test.YtcdbbcnoleilfaaAffE
namespace Go.Proofs.Ytcdbbcnoleilfaa
set_option linter.unusedVariables false
set_option linter.unusedSimpArgs false

theorem setB_32 {s : List Int} {p : Int} (h : setB s p = true) : setB s 32 = true := setB_more h (setB_iff.1 h).2.2.2 (by omega)
theorem mem_meetL {xs ys : List Int} {z : Int} (hx : setB xs 32 = true) (hy : setB ys 32 = true) : z ∈ meetL xs ys ↔ z ∈ xs ∧ z ∈ ys := by
  rw [meetL_eq hx hy, List.mem_filter, hasB_true]; exact and_comm
/-- The point on block x of the first class and block y of the second. -/
def mpP (xss C : List (List Int)) (x y : Nat) : Int := nth (meetL (row xss (cN C 0 x)) (row xss (cN C 1 y))) 0
/-- The block of class c through it. -/
def mpF (xss C : List (List Int)) (c x y : Nat) : Int := firstIdx (fun i => hasB (row xss (cN C c i)) (mpP xss C x y)) (row C c).length
/-- What the reference has when the points below p are done. -/
def mpS (xss C : List (List Int)) (c p x y : Nat) : Int := if mpP xss C x y < (p : Int) then mpF xss C c x y else 0
section
variable {P K : Nat} {xss C : List (List Int)}
theorem lnB_t {j x : Nat} : lnB xss j x = true ↔ (x : Int) ∈ row xss j := hasB_true
theorem ClsOk.cross (hI : Inc P xss.length K (lnB xss)) (hR : RowsOk P xss) (h : ClsOk P xss C xss.length) {x y : Nat} (hx : x < K) (hy : y < K) :
    0 < (meetL (row xss (cN C 0 x)) (row xss (cN C 1 y))).length ∧ ∃ p, p < P ∧ mpP xss C x y = (p : Int) ∧ lnB xss (cN C 0 x) p = true ∧ lnB xss (cN C 1 y) p = true := by
  have hm := h.many hI
  have h2 := hI.two
  have l0 : x < (row C 0).length := by rw [h.len hI (show 0 < C.length by omega)]; exact hx
  have l1 : y < (row C 1).length := by rw [h.len hI (show 1 < C.length by omega)]; exact hy
  have m0 := (h.mem 0 (by omega) x l0).2
  have m1 := (h.mem 1 (by omega) y l1).2
  have ha := (h.apart 0 1 (by omega) (by omega) (by omega) x y l0 l1).2
  have s0 := hR _ m0
  have s1 := hR _ m1
  have hmem := fun z => mem_meetL (z := z) (setB_32 s0) (setB_32 s1)
  have hpos : 0 < (meetL (row xss (cN C 0 x)) (row xss (cN C 1 y))).length := by
    unfold dj at ha
    rw [decide_eq_false_iff_not] at ha
    obtain ⟨z, hz, h1⟩ := sg_pos (g := fun z => bn (lnB xss (cN C 0 x) z && lnB xss (cN C 1 y) z)) (k := P) (by unfold mtN at ha; omega)
    have hb := bn_pos.1 h1
    rw [Bool.and_eq_true, lnB_t, lnB_t] at hb
    exact List.length_pos_of_mem ((hmem _).2 hb)
  refine ⟨hpos, ?_⟩
  have hz := (hmem _).1 (mem_nth.2 ⟨0, hpos, rfl⟩)
  have hz2 := (setB_iff.1 s0).2.1 _ hz.1
  refine ⟨(mpP xss C x y).toNat, by unfold mpP; omega, by unfold mpP; omega, lnB_t.2 ?_, lnB_t.2 ?_⟩
  · rw [show (((mpP xss C x y).toNat : Nat) : Int) = mpP xss C x y by unfold mpP; omega]; exact hz.1
  · rw [show (((mpP xss C x y).toNat : Nat) : Int) = mpP xss C x y by unfold mpP; omega]; exact hz.2
theorem ClsOk.point (hI : Inc P xss.length K (lnB xss)) (hR : RowsOk P xss) (h : ClsOk P xss C xss.length) {x y p : Nat} (hx : x < K) (hy : y < K) (hp : p < P) (h1 : lnB xss (cN C 0 x) p = true) (h2 : lnB xss (cN C 1 y) p = true) : mpP xss C x y = (p : Int) := by
  obtain ⟨_, q, hq, e, e1, e2⟩ := h.cross hI hR hx hy
  have hm := h.many hI
  have h3 := hI.two
  have l0 : x < (row C 0).length := by rw [h.len hI (show 0 < C.length by omega)]; exact hx
  have l1 : y < (row C 1).length := by rw [h.len hI (show 1 < C.length by omega)]; exact hy
  have hne := (h.apart 0 1 (by omega) (by omega) (by omega) x y l0 l1).1
  by_cases e3 : p = q
  · rw [e, e3]
  · exact absurd (hI.uniq hp hq e3 (h.mem 0 (by omega) x l0).2 (h.mem 1 (by omega) y l1).2 h1 e1 h2 e2) hne
theorem ClsOk.mpF_eq (hI : Inc P xss.length K (lnB xss)) (h : ClsOk P xss C xss.length) {c x y i p : Nat} (hc : c < C.length) (hi : i < K) (hp : p < P) (e : mpP xss C x y = (p : Int)) (h1 : lnB xss (cN C c i) p = true) : mpF xss C c x y = (i : Int) := by
  have hl := h.len hI hc
  unfold mpF
  rw [e, hl]
  refine firstIdx_hit hi h1 fun j hj => ?_
  rcases e2 : hasB (row xss (cN C c j)) (p : Int) with _ | _
  · rfl
  · have := h.once hc hp (i := j) (i' := i) (by omega) (by omega) e2 h1
    omega
theorem ClsOk.mpS_step (hI : Inc P xss.length K (lnB xss)) (hR : RowsOk P xss) (h : ClsOk P xss C xss.length) {c x y i p : Nat} (hc : c < C.length) (hx : x < K) (hy : y < K) (hi : i < K) (hp : p < P) (h0 : lnB xss (cN C 0 x) p = true) (h1 : lnB xss (cN C 1 y) p = true) (h2 : lnB xss (cN C c i) p = true) :
    sqTo (upd (mpS xss C c p) x y (i : Int)) K K = sqTo (mpS xss C c (p + 1)) K K := sqTo_congr fun x' y' hx' hy' => by
  have e := h.point hI hR hx hy hp h0 h1
  unfold upd
  by_cases e1 : x' = x ∧ y' = y
  · obtain ⟨rfl, rfl⟩ := e1
    rw [if_pos ⟨rfl, rfl⟩]
    unfold mpS
    rw [if_pos (by omega), h.mpF_eq hI hc hi hp e h2]
  · rw [if_neg e1]
    have hne : mpP xss C x' y' ≠ (p : Int) := fun e2 => by
      obtain ⟨_, q, hq, e3, e4, e5⟩ := h.cross hI hR hx' hy'
      obtain rfl : q = p := by omega
      have hm := h.many hI
      have h3 := hI.two
      refine e1 ⟨h.once (c := 0) (by omega) hp ?_ ?_ e4 h0, h.once (c := 1) (by omega) hp ?_ ?_ e5 h1⟩ <;> rw [h.len hI (by omega)] <;> assumption
    unfold mpS
    by_cases e3 : mpP xss C x' y' < (p : Int)
    · rw [if_pos e3, if_pos (by omega)]
    · rw [if_neg e3, if_neg (by omega)]
theorem ClsOk.mpS_all (hI : Inc P xss.length K (lnB xss)) (hR : RowsOk P xss) (h : ClsOk P xss C xss.length) (c : Nat) : sqTo (mpS xss C c P) K K = sqTo (mpF xss C c) K K := sqTo_congr fun x y hx hy => by
  obtain ⟨_, q, hq, e3, _⟩ := h.cross hI hR hx hy
  unfold mpS
  rw [if_pos (by omega)]
theorem ClsOk.mpS_zero (hI : Inc P xss.length K (lnB xss)) (hR : RowsOk P xss) (h : ClsOk P xss C xss.length) (c : Nat) : sqTo (fun _ _ => 0) K K = sqTo (mpS xss C c 0) K K := sqTo_congr fun x y hx hy => by
  obtain ⟨_, q, hq, e3, _⟩ := h.cross hI hR hx hy
  unfold mpS
  rw [if_neg (by omega)]
theorem ClsOk.on_k (hI : Inc P xss.length K (lnB xss)) (h : ClsOk P xss C xss.length) {c p : Nat} (hc : c < C.length) (hp : p < P) : ∃ i, i < K ∧ lnB xss (cN C c i) p = true ∧ ∀ j, j < K → j ≠ i → lnB xss (cN C c j) p = false := by
  obtain ⟨i, hi, h1⟩ := h.on hI hc hp
  have hl := h.len hI hc
  refine ⟨i, by omega, h1, fun j hj hne => ?_⟩
  rcases e2 : lnB xss (cN C c j) p with _ | _
  · rfl
  · exact absurd (h.once hc hp (by omega) hi e2 h1) hne
end
/-- The index, once it is passed. -/
def atK (i k : Nat) : List Int := if i < k then [(i : Int)] else []
theorem atK_hit (i : Nat) : atK i i = [] ∧ atK i (i + 1) = [(i : Int)] := ⟨if_neg (by omega), if_pos (by omega)⟩
theorem atK_miss {i k : Nat} (h : k ≠ i) : atK i (k + 1) = atK i k := by
  unfold atK
  by_cases e : i < k
  · rw [if_pos e, if_pos (by omega)]
  · rw [if_neg e, if_neg (by omega)]
end Go.Proofs.Ytcdbbcnoleilfaa
