/-
  ParallelClasses as a plain law; lemmas under both walks. Conditions: those of each theorem.
-/
import Derived.Test.YtcdbbcnoleilfaaAffM
import Derived.Test.YtcdbbcnoleilfaaPutR
namespace Go.Proofs.Ytcdbbcnoleilfaa
open Go.RowKit
set_option linter.unusedVariables false
set_option linter.unusedSimpArgs false

theorem firstIdx_congr {p q : Nat → Bool} {n : Nat} (h : ∀ i, i < n → p i = q i) : firstIdx p n = firstIdx q n := by
  rcases firstIdx_case q n with ⟨e, hno⟩ | ⟨c, hc, e, _⟩
  · rw [e]; exact firstIdx_miss fun i hi => (h i hi).trans (hno i hi)
  · obtain ⟨k, hk, e1, e2, e3⟩ := firstIdx_nat (p := q) (n := n) (by omega)
    rw [e1]; exact firstIdx_hit hk ((h k hk).trans e2) fun j hj => (h j (by omega)).trans (e3 j hj)
theorem dj_meet {P : Nat} {xss : List (List Int)} (hR : RowsOk P xss) {i j : Nat} (hi : i < xss.length) (hj : j < xss.length) : decide ((meetL (row xss i) (row xss j)).length = 0) = dj (lnB xss) P i j := by
  rw [Bool.eq_iff_iff, decide_eq_true_eq, dj_t, List.length_eq_zero_iff, List.eq_nil_iff_forall_not_mem]
  have hmem := fun z => mem_meetL (z := z) (setB_32 (hR i hi)) (setB_32 (hR j hj))
  constructor
  · intro h y _ h1 h2
    exact h y ((hmem _).2 ⟨lnB_t.1 h1, lnB_t.1 h2⟩)
  · intro h z hz
    have h1 := (hmem z).1 hz
    have h2 := (setB_iff.1 (hR i hi)).2.1 z h1.1
    refine h z.toNat (by omega) (lnB_t.2 ?_) (lnB_t.2 ?_) <;> rw [show ((z.toNat : Nat) : Int) = z by omega]
    · exact h1.1
    · exact h1.2
theorem clsNext_len (P : Nat) (xss C : List (List Int)) (k : Nat) : (clsNext P xss C k).length ≤ C.length + 1 := by
  unfold clsNext
  split
  · simp
  · rw [List.length_set]; omega
theorem clsTo_len (P : Nat) (xss : List (List Int)) (k : Nat) : (clsTo P xss k).length ≤ k := by
  induction k with
  | zero => exact Nat.le_refl _
  | succ k ih => have := clsNext_len P xss (clsTo P xss k) k; rw [clsTo]; omega
theorem clsTo_tot (P : Nat) (xss : List (List Int)) (k : Nat) : tot (clsTo P xss k) ≤ k := by
  induction k with
  | zero => exact Nat.le_refl _
  | succ k ih =>
    rw [clsTo]
    unfold clsNext
    split
    · rw [tot_append, tot_one]; simp; omega
    · rcases firstIdx_case (clsP P xss (clsTo P xss k) k) (clsTo P xss k).length with ⟨e, _⟩ | ⟨c, hc, e, _⟩
      · omega
      · rw [e, show ((c : Int)).toNat = c by omega]
        have := (flatten_set_perm (v := (k : Int)) hc).length_eq
        unfold tot at ih ⊢
        rw [← List.length_flatten] at ih ⊢
        rw [this, List.length_append, List.length_singleton]
        omega
theorem clsNext_new {P : Nat} {xss C : List (List Int)} {k : Nat} (h : firstIdx (clsP P xss C k) C.length = -1) : clsNext P xss C k = C ++ [[(k : Int)]] := by
  unfold clsNext; rw [if_pos (by omega)]
theorem clsNext_old {P : Nat} {xss C : List (List Int)} {k c : Nat} (h : firstIdx (clsP P xss C k) C.length = (c : Int)) : clsNext P xss C k = C.set c (row C c ++ [(k : Int)]) := by
  unfold clsNext; rw [if_neg (by omega), h, show ((c : Int)).toNat = c by omega]
def pcC (p : Int) (xss : List (List Int)) : Int := if dsgB p xss = true then (if affI p xss = 0 then 6 else 0) else 1
def pcX (p : Int) (xss : List (List Int)) : List (List Int) := if pcC p xss = 0 then clsTo p.toNat xss xss.length else []
theorem affI_pos {p : Int} {xss : List (List Int)} (h : affI p xss ≠ 0) : dsgB p xss = true ∧ affOk p.toNat xss ∧ affI p xss = ((row xss 0).length : Int) := by
  unfold affI at h ⊢
  split at h
  · next h1 => exact ⟨h1.1, h1.2, if_pos h1⟩
  · exact absurd rfl h
theorem pc_facts {p : Int} {xss : List (List Int)} (h : pcC p xss = 0) : ∃ P : Nat, p = (P : Int) ∧ DsgOk (P : Int) xss ∧ affI p xss = ((row xss 0).length : Int) ∧ Inc P xss.length (row xss 0).length (lnB xss) ∧ pcX p xss = clsTo P xss xss.length := by
  unfold pcC at h
  have hd : dsgB p xss = true := by
    rcases e : dsgB p xss with _ | _
    · rw [if_neg (by rw [e]; simp)] at h; omega
    · rfl
  rw [if_pos hd] at h
  have ha : affI p xss ≠ 0 := fun e => by rw [if_pos e] at h; omega
  obtain ⟨h1, h2, h3⟩ := affI_pos ha
  have hD := dsgB_true.1 h1
  obtain ⟨P, rfl⟩ : ∃ P : Nat, p = (P : Int) := ⟨p.toNat, by have := hD.1.1; omega⟩
  rw [show ((P : Int)).toNat = P by omega] at h2
  exact ⟨P, rfl, hD, h3, affOk_inc hD h2, by unfold pcX; rw [if_pos (by unfold pcC; rw [if_pos hd, if_neg ha])]; congr 1⟩
theorem ParallelClasses_small (p : Int) (xss : List (List Int)) : (pcX p xss).length ≤ 1048576 ∧ tot (pcX p xss) ≤ 1048576 := by
  by_cases h : pcC p xss = 0
  · obtain ⟨P, rfl, hD, _, hI, e⟩ := pc_facts h
    have hm := hD.2.1
    rw [e]
    have h1 := clsTo_len P xss xss.length
    have h2 := (clsTo_ok hI (Nat.le_refl _)).tot_
    omega
  · rw [show pcX p xss = [] from if_neg h]; simp [tot]
theorem OwnI.only (w : World) (x : Int) {lo : Nat} (h : lo ≤ w.heap.size) : OwnI (w.alloc (.cells #[.int .i64 x] 2)) lo (some ⟨w.heap.size, 0, none⟩) 1 [x] :=
  World.ownsRow_lit (e := 2) (size := 1) w #[.int .i64 x] 1 h (by unfold maxLen; omega) rfl
theorem OwnI.nilcap {w : World} {lo : Nat} {A : Option Addr} {c : Nat} {xs : List Int} (h : OwnI w lo A c xs) (ea : A = none) : c = 0 := by
  rcases h.form with ⟨_, h, _⟩ | ⟨g, h, _⟩
  · exact h
  · rw [h] at ea; cases ea
theorem stopP {p : Prop} (h : Hid p) : p := h.out
theorem keepP {lo : Nat} {w w' : World} {q1 q2 q3 q4 q5 : Addr} {v1 v2 v3 v4 v5 : Option Value} (hb : Below lo w w') (h1 : q1.block < lo) (h2 : q2.block < lo) (h3 : q3.block < lo) (h4 : q4.block < lo) (h5 : q5.block < lo) (h : w.cell? q1 = v1 ∧ w.cell? q2 = v2 ∧ w.cell? q3 = v3 ∧ w.cell? q4 = v4 ∧ w.cell? q5 = v5) :
    w'.cell? q1 = v1 ∧ w'.cell? q2 = v2 ∧ w'.cell? q3 = v3 ∧ w'.cell? q4 = v4 ∧ w'.cell? q5 = v5 := ⟨(hb.cell h1).trans h.1, (hb.cell h2).trans h.2.1, (hb.cell h3).trans h.2.2.1, (hb.cell h4).trans h.2.2.2.1, (hb.cell h5).trans h.2.2.2.2⟩
theorem RdM.open2 {w : World} {A : Option Addr} {c : Nat} {R : Spine} {h : List (List Int)} (hr : RdM w A c R h) (hn : 0 < h.length) :
    ∃ b off, A = some ⟨b, off, none⟩ ∧ b < w.heap.size ∧ ∀ k, k < h.length → w.cell? ⟨b, off + k, none⟩ = some (.slice (R k).1 (row h k).length (R k).2) := by
  obtain ⟨b, off, rfl, hb, _⟩ := hr.at_ 0 hn
  refine ⟨b, off, rfl, hb, fun k hk => ?_⟩
  obtain ⟨b', off', e, _, hc⟩ := hr.at_ k hk
  injection e with e
  injection e with e1 e2
  subst e1 e2
  exact hc
end Go.Proofs.Ytcdbbcnoleilfaa
