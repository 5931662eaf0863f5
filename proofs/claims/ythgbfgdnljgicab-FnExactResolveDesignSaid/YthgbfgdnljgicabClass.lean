/-
  Parallel classes: isClass of the program, l14Class of the reference, IsParallelClass of both. Conditions: those of each theorem.
-/
import Derived.Test.YthgbfgdnljgicabBools
namespace Go.Proofs.Ythgbfgdnljgicab
open Go.RowKit
set_option linter.unusedVariables false
set_option linter.unusedSimpArgs false

/-- The points of the first k blocks of a class, one behind the other. -/
def preL (xss : List (List Int)) (cls : List Int) (k : Nat) : List Int := (cls.take k).flatMap fun (i : Int) => row xss i.toNat
theorem preL_zero (xss : List (List Int)) (cls : List Int) : preL xss cls 0 = [] := by simp [preL]
theorem preL_succ {xss : List (List Int)} {cls : List Int} {k : Nat} (h : k < cls.length) : preL xss cls (k + 1) = preL xss cls k ++ row xss (nth cls k).toNat := by
  unfold preL
  rw [take_nth h, List.flatMap_append]
  simp
theorem preL_le {xss : List (List Int)} {cls : List Int} {k m : Nat} (h : k ≤ m) (hm : m ≤ cls.length) : ∃ r, preL xss cls m = preL xss cls k ++ r := by
  induction m with
  | zero => obtain rfl : k = 0 := by omega
            exact ⟨[], by simp⟩
  | succ m ih =>
    by_cases e : k = m + 1
    · subst e; exact ⟨[], by simp⟩
    · obtain ⟨r, hr⟩ := ih (by omega) (by omega)
      refine ⟨r ++ row xss (nth cls m).toNat, ?_⟩
      rw [preL_succ (by omega), hr, List.append_assoc]

/-- The class is one: its indices rise, its blocks part, each point lies in one. -/
def ClassOk (P : Nat) (xss : List (List Int)) (cls : List Int) : Prop :=
  RiseTo 0 ((xss.length : Int) - 1) cls cls.length ∧ (preL xss cls cls.length).Nodup ∧ ∀ i, i < P → (i : Int) ∈ preL xss cls cls.length
instance (P : Nat) (xss : List (List Int)) (cls : List Int) : Decidable (ClassOk P xss cls) := by unfold ClassOk; infer_instance
def classB (P : Nat) (xss : List (List Int)) (cls : List Int) : Bool := decide (ClassOk P xss cls)

theorem rowOk {P : Nat} {xss : List (List Int)} (hD : DsgOk (P : Int) xss) {i : Nat} (hi : i < xss.length) {j : Nat} (hj : j < (row xss i).length) : 0 ≤ nth (row xss i) j ∧ nth (row xss i) j < (P : Int) := by
  have h := setB_iff.1 (blockB_set (hD.2.2 i hi).1)
  exact h.2.1 _ (by rw [nth_eq hj]; exact List.getElem_mem hj)
theorem preL_bd {P : Nat} {xss : List (List Int)} (hD : DsgOk (P : Int) xss) {cls : List Int} (hc : RiseTo 0 ((xss.length : Int) - 1) cls cls.length) {k : Nat} (hk : k ≤ cls.length) : ∀ x ∈ preL xss cls k, 0 ≤ x ∧ x < (P : Int) := by
  intro x hx
  unfold preL at hx
  rw [List.mem_flatMap] at hx
  obtain ⟨i, hi, hx⟩ := hx
  have hm := hc.mem (List.mem_of_mem_take hi)
  obtain ⟨j, hj, rfl⟩ := mem_nth.1 hx
  exact rowOk hD (by omega) hj
/-- A point that is met twice. -/
theorem not_class {P : Nat} {xss : List (List Int)} {cls : List Int} {k j : Nat} (hk : k < cls.length) (hj : j < (row xss (nth cls k).toNat).length)
    (h : nth (row xss (nth cls k).toNat) j ∈ preL xss cls k ++ (row xss (nth cls k).toNat).take j) : classB P xss cls = false := by
  refine decide_eq_false fun hc => ?_
  obtain ⟨r, hr⟩ := preL_le (xss := xss) (cls := cls) (k := k + 1) (m := cls.length) (by omega) (Nat.le_refl _)
  have hd := hc.2.1
  rw [hr, preL_succ hk] at hd
  have h1 := (List.nodup_append.1 hd).1
  rw [← List.take_append_drop (j + 1) (row xss (nth cls k).toNat), ← List.append_assoc] at h1
  have h2 := (List.nodup_append.1 h1).1
  rw [take_nth hj, ← List.append_assoc] at h2
  have h3 := (List.nodup_append.1 h2).2.2 _ h _ (List.mem_singleton.2 rfl)
  exact h3 rfl

theorem nodup_snoc {L : List Int} {x : Int} (h : L.Nodup) (hx : x ∉ L) : (L ++ [x]).Nodup := by
  rw [List.nodup_append]
  refine ⟨h, by simp, ?_⟩
  intro a ha b hb
  rw [List.mem_singleton] at hb
  subst hb
  exact fun e => hx (e ▸ ha)

section
variable {w w' : World} {B : Nat} {p : Int} {A : Option Addr} {n c : Nat}
theorem BoxD.step (h : BoxD w B p A n c) {lo : Nat} (hl : B < lo) (hb : Below lo w w') : BoxD w' B p A n c :=
  ⟨(hb.cell (p := ⟨B, 0, none⟩) hl).trans h.c0, (hb.cell (p := ⟨B, 1, none⟩) hl).trans h.c1⟩
end

theorem preL_len {P : Nat} {xss : List (List Int)} (hD : DsgOk (P : Int) xss) {cls : List Int} (hc : RiseTo 0 ((xss.length : Int) - 1) cls cls.length) {k : Nat} (hk : k ≤ cls.length) (hd : (preL xss cls k).Nodup) : (preL xss cls k).length ≤ P := by
  rw [nodup_count hd (preL_bd hD hc hk)]
  have := List.length_filter_le (fun i => hasB (preL xss cls k) ((i : Nat) : Int)) (List.range P)
  rwa [List.length_range] at this

/-! ### IsParallelClass -/

def isClassB (p : Int) (xss : List (List Int)) (cls : List Int) : Bool := dsgB p xss && classB p.toNat xss cls

end Go.Proofs.Ythgbfgdnljgicab
