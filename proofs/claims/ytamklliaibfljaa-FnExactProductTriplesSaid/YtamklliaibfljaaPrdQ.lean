/-
  ProductTriples: what it answers, how its blocks are read. Conditions: those of each theorem.
-/
import Derived.Test.YtamklliaibfljaaUnp
import Derived.Test.YtamklliaibfljaaMake
import Derived.Test.YtamklliaibfljaaPlane
namespace Go.Proofs.Ytamklliaibfljaa
open Go.RowKit
set_option linter.unusedVariables false
set_option linter.unusedSimpArgs false

theorem ptrip_dsg {p : Int} {xss : List (List Int)} (h : tripB p xss = true) : DsgOk p xss ∧ tripOk p.toNat xss := by
  unfold tripB at h
  rw [Bool.and_eq_true, dsgB_true, decide_eq_true_eq] at h
  exact h
theorem ptrip_sys {P : Nat} {xss : List (List Int)} (h : tripB (P : Int) xss = true) : DsgOk (P : Int) xss ∧ TripSys P xss := by
  obtain ⟨h1, h2⟩ := ptrip_dsg h
  exact ⟨h1, trip_of h1 (by simpa using h2)⟩

/-- A triple system has three points. -/
theorem tripB_three {P : Nat} {xss : List (List Int)} (h : tripB (P : Int) xss = true) : 3 ≤ P := by
  obtain ⟨hD, hT⟩ := ptrip_sys h
  unfold tripB at h
  rw [Bool.and_eq_true, decide_eq_true_eq] at h
  have h3 : (row xss 0).length = 3 := h.2.2.1
  have hl : 0 < xss.length := by
    rcases Nat.eq_zero_or_pos xss.length with e | e
    · have : xss = [] := List.eq_nil_of_length_eq_zero e
      rw [this] at h3; simp [row] at h3
    · exact e
  have := setB_len (hT.rows 0 hl)
  omega

theorem RdM.tri {w : World} {A : Option Addr} {c P : Nat} {R : Spine} {xss : List (List Int)} (h : RdM w A c R xss) (hT : TripSys P xss) {i : Nat} (hi : i < xss.length) :
    ∃ (b off b1 o1 cc : Nat), A = some ⟨b, off, none⟩ ∧ b < w.heap.size ∧ b1 < w.heap.size ∧ w.cell? ⟨b, off + i, none⟩ = some (.slice (some ⟨b1, o1, none⟩) 3 cc) ∧ 3 ≤ cc ∧ ∀ k, k < 3 → w.cell? ⟨b1, o1 + k, none⟩ = some (.int .i64 ((sN (row xss i) k : Nat) : Int)) := by
  have h3 := hT.three i hi
  have hs := hT.rows i hi
  obtain ⟨b, off, e, hb, hc⟩ := h.at_ i hi
  have hr := h.rows i hi
  obtain ⟨b1, o1, e1, hb1, h0⟩ := hr.at_ 0 (by omega)
  rw [e1, h3] at hc
  refine ⟨b, off, b1, o1, (R i).2, e, hb, hb1, hc, by have := hr.le; omega, fun k hk => ?_⟩
  obtain ⟨b2, o2, e2, _, h1⟩ := hr.at_ k (by omega)
  rw [e1] at e2
  injection e2 with e2
  injection e2 with e4 e5
  subst e4 e5
  rw [(three_sN hs h3 hk).2.1] at h1
  exact h1
theorem TripSys.pt {P : Nat} {xss : List (List Int)} (hT : TripSys P xss) {i : Nat} (hi : i < xss.length) {c : Nat} (hc : c < 3) : sN (row xss i) c < P := (three_sN (hT.rows i hi) (hT.three i hi) hc).1
theorem TripSys.ne {P : Nat} {xss : List (List Int)} (hT : TripSys P xss) {i : Nat} (hi : i < xss.length) : sN (row xss i) 0 ≠ sN (row xss i) 1 ∧ sN (row xss i) 0 ≠ sN (row xss i) 2 ∧ sN (row xss i) 1 ≠ sN (row xss i) 2 :=
  ⟨(three_sN (hT.rows i hi) (hT.three i hi) (i := 0) (by omega)).2.2.1, (three_sN (hT.rows i hi) (hT.three i hi) (i := 0) (by omega)).2.2.2.1, (three_sN (hT.rows i hi) (hT.three i hi) (i := 0) (by omega)).2.2.2.2.1⟩
theorem un_lt : ∀ r, r < 6 → un r 0 < 3 ∧ un r 1 < 3 ∧ un r 2 < 3 ∧ nth (un3 r) 0 = ((un r 0 : Nat) : Int) ∧ nth (un3 r) 1 = ((un r 1 : Nat) : Int) ∧ nth (un3 r) 2 = ((un r 2 : Nat) : Int) ∧ (un3 r).length = 3 := by decide

theorem pdA_eq {n : Nat} {x : List Int} {y u0 u1 u2 : Nat} (h0 : u0 = n * sN x 0) (h1 : u1 = n * sN x 1) (h2 : u2 = n * sN x 2) : pdA n x y = trp ((u0 : Int) + (y : Int)) ((u1 : Int) + (y : Int)) ((u2 : Int) + (y : Int)) := by
  subst h0 h1 h2; unfold pdA; simp only [Int.natCast_add]
theorem pdB_eq {n : Nat} {x y : List Int} {r u0 u1 u2 v0 v1 v2 : Nat} (h0 : u0 = n * sN x 0) (h1 : u1 = n * sN x 1) (h2 : u2 = n * sN x 2) (g0 : v0 = sN y (un r 0)) (g1 : v1 = sN y (un r 1)) (g2 : v2 = sN y (un r 2)) : pdB n x y r = trp ((u0 : Int) + (v0 : Int)) ((u1 : Int) + (v1 : Int)) ((u2 : Int) + (v2 : Int)) := by
  subst h0 h1 h2 g0 g1 g2; unfold pdB; simp only [Int.natCast_add]
theorem pdC_eq {n x : Nat} {y : List Int} {u v0 v1 v2 : Nat} (h0 : u = n * x) (g0 : v0 = sN y 0) (g1 : v1 = sN y 1) (g2 : v2 = sN y 2) : pdC n x y = trp ((u : Int) + (v0 : Int)) ((u : Int) + (v1 : Int)) ((u : Int) + (v2 : Int)) := by
  subst h0 g0 g1 g2; unfold pdC; simp only [Int.natCast_add]
theorem mul_ne {n a b y z : Nat} (h : a ≠ b) (hy : y < n) (hz : z < n) : n * a + y ≠ n * b + z := fun e => by
  have h1 : (n * a + y) / n = a := by rw [Nat.mul_add_div (by omega), Nat.div_eq_of_lt hy]; rfl
  have h2 : (n * b + z) / n = b := by rw [Nat.mul_add_div (by omega), Nat.div_eq_of_lt hz]; rfl
  rw [e, h2] at h1
  exact h h1.symm

theorem pdAs_rows {n k : Nat} {x r : List Int} (h : r ∈ pdAs n x k) : r.length = 3 := by
  obtain ⟨y, _, rfl⟩ := List.mem_map.1 h; exact trp_len _ _ _
theorem pdBr_rows {n k : Nat} {x y r : List Int} (h : r ∈ pdBr n x y k) : r.length = 3 := by
  obtain ⟨y, _, rfl⟩ := List.mem_map.1 h; exact trp_len _ _ _
theorem pdBs_rows {n k : Nat} {x r : List Int} {ys : List (List Int)} (h : r ∈ pdBs n x ys k) : r.length = 3 := by
  obtain ⟨y, _, h⟩ := List.mem_flatMap.1 h; exact pdBr_rows h
theorem pdX_rows {n k : Nat} {r : List Int} {xs ys : List (List Int)} (h : r ∈ pdX n xs ys k) : r.length = 3 := by
  obtain ⟨y, _, h⟩ := List.mem_flatMap.1 h
  rcases List.mem_append.1 h with h | h
  · exact pdAs_rows h
  · exact pdBs_rows h
theorem pdCr_rows {n x k : Nat} {r : List Int} {ys : List (List Int)} (h : r ∈ pdCr n x ys k) : r.length = 3 := by
  obtain ⟨y, _, rfl⟩ := List.mem_map.1 h; exact trp_len _ _ _
theorem pdCs_rows {n k : Nat} {r : List Int} {ys : List (List Int)} (h : r ∈ pdCs n ys k) : r.length = 3 := by
  obtain ⟨y, _, h⟩ := List.mem_flatMap.1 h; exact pdCr_rows h

/-- The blocks of the product as the program makes them. -/
def ptL (m n : Nat) (xs ys : List (List Int)) : List (List Int) := pdX n xs ys xs.length ++ pdCs n ys m
/-- .. as the reference makes them. -/
def ptM (m n : Nat) (xs ys : List (List Int)) : List (List Int) := pdX n xs ys xs.length ++ pdDs n m ys ys.length
theorem ptM_perm (m n : Nat) (xs ys : List (List Int)) : (ptM m n xs ys).Perm (ptL m n xs ys) := pd_perm n m xs ys
theorem ptL_rows {m n : Nat} {xs ys : List (List Int)} {r : List Int} (h : r ∈ ptL m n xs ys) : r.length = 3 := by
  rcases List.mem_append.1 h with h | h
  · exact pdX_rows h
  · exact pdCs_rows h
theorem ptM_rows {m n : Nat} {xs ys : List (List Int)} {r : List Int} (h : r ∈ ptM m n xs ys) : r.length = 3 := ptL_rows ((ptM_perm m n xs ys).mem_iff.1 h)
theorem ptL_len {m n : Nat} {xs ys : List (List Int)} (hx : TripSys m xs) (hy : TripSys n ys) (hm : 3 ≤ m) (hn : 3 ≤ n) (h : m * n ≤ 32) : (ptL m n xs ys).length ≤ 128 := by
  have := (pd_small hx hy hm hn h).1
  unfold ptL
  rw [List.length_append, pdX_cnt, pdCs_cnt]
  exact this

def ptRP (p : Int) (xss : List (List Int)) (q : Int) (yss : List (List Int)) : Int := if tripB p xss = true ∧ tripB q yss = true then (if p * q ≤ 32 then p * q else 0) else 0
def ptRX (p : Int) (xss : List (List Int)) (q : Int) (yss : List (List Int)) : List (List Int) := if tripB p xss = true ∧ tripB q yss = true then (if p * q ≤ 32 then sortLL (ptL p.toNat q.toNat xss yss) else []) else []
def ptRC (p : Int) (xss : List (List Int)) (q : Int) (yss : List (List Int)) : Int := if tripB p xss = true ∧ tripB q yss = true then (if p * q ≤ 32 then 0 else 5) else 1
theorem ProductTriples_small (p : Int) (xss : List (List Int)) (q : Int) (yss : List (List Int)) : (ptRX p xss q yss).length ≤ 1048576 ∧ tot (ptRX p xss q yss) ≤ 1048576 := by
  unfold ptRX
  split
  · next h =>
    split
    · next h2 =>
      have hD := ptrip_dsg h.1
      have hE := ptrip_dsg h.2
      obtain ⟨P, rfl⟩ : ∃ P : Nat, p = (P : Int) := ⟨p.toNat, by have := hD.1.1.1; omega⟩
      obtain ⟨N, rfl⟩ : ∃ N : Nat, q = (N : Int) := ⟨q.toNat, by have := hE.1.1.1; omega⟩
      have := ptL_len (ptrip_sys h.1).2 (ptrip_sys h.2).2 (tripB_three h.1) (tripB_three h.2) (by rw [← Int.natCast_mul] at h2; omega)
      exact sortLL_small (show (ptL P N xss yss).length ≤ 1000 by omega) fun r hr => by have := ptL_rows hr; omega
    · simp [tot]
  · simp [tot]

theorem pk3 {lo b1 b2 b3 : Nat} {w w' : World} {o1 o2 o3 : Nat} {v1 v2 v3 : Value} (hb : Below lo w w') (h1 : b1 < lo) (h2 : b2 < lo) (h3 : b3 < lo) (h : w.cell? ⟨b1, o1, none⟩ = some v1 ∧ w.cell? ⟨b2, o2, none⟩ = some v2 ∧ w.cell? ⟨b3, o3, none⟩ = some v3) :
    w'.cell? ⟨b1, o1, none⟩ = some v1 ∧ w'.cell? ⟨b2, o2, none⟩ = some v2 ∧ w'.cell? ⟨b3, o3, none⟩ = some v3 := ⟨(hb.cell (p := ⟨b1, o1, none⟩) h1).trans h.1, (hb.cell (p := ⟨b2, o2, none⟩) h2).trans h.2.1, (hb.cell (p := ⟨b3, o3, none⟩) h3).trans h.2.2⟩
theorem OwnM.blk_ltP {w : World} {lo : Nat} {A : Option Addr} {c : Nat} {R : Spine} {xss : List (List Int)} (h : OwnM w lo A c R xss) : ∀ g, blk A = some g → g < w.heap.size := fun g e => by
  rcases h.form with ⟨e1, _⟩ | ⟨g1, e1, _, h2, _⟩
  · rw [e1] at e; simp [blk] at e
  · rw [e1, blk_some] at e; injection e with e; omega
theorem OwnI.threeP {w : World} {lo g c r a0 a1 a2 : Nat} (h : OwnI w lo (some ⟨g, 0, none⟩) c (un3 r)) (hr : r < 6) (e0 : a0 = un r 0) (e1 : a1 = un r 1) (e2 : a2 = un r 2) :
    w.cell? ⟨g, 0, none⟩ = some (.int .i64 (a0 : Int)) ∧ w.cell? ⟨g, 1, none⟩ = some (.int .i64 (a1 : Int)) ∧ w.cell? ⟨g, 2, none⟩ = some (.int .i64 (a2 : Int)) := by
  obtain ⟨_, _, _, h0, h1, h2, hl⟩ := un_lt r hr
  have q : ∀ k, k < 3 → w.cell? ⟨g, k, none⟩ = some (.int .i64 (nth (un3 r) k)) := fun k hk => by
    obtain ⟨g', e, _, _, hc, _⟩ := h.at_ (k := k) (by omega)
    injection e with e
    injection e with e
    subst e
    exact hc
  subst e0 e1 e2
  rw [← h0, ← h1, ← h2]
  exact ⟨q 0 (by omega), q 1 (by omega), q 2 (by omega)⟩
theorem pk9 {lo b1 b2 b3 : Nat} {w w' : World} {o1 o2 o3 o4 o5 o6 o7 o8 o9 : Nat} {v1 v2 v3 v4 v5 v6 v7 v8 v9 : Value} (hb : Below lo w w') (h1 : b1 < lo) (h2 : b2 < lo) (h3 : b3 < lo) (h : (w.cell? ⟨b1, o1, none⟩ = some v1 ∧ w.cell? ⟨b1, o2, none⟩ = some v2 ∧ w.cell? ⟨b1, o3, none⟩ = some v3) ∧ (w.cell? ⟨b2, o4, none⟩ = some v4 ∧ w.cell? ⟨b2, o5, none⟩ = some v5 ∧ w.cell? ⟨b2, o6, none⟩ = some v6) ∧ (w.cell? ⟨b3, o7, none⟩ = some v7 ∧ w.cell? ⟨b3, o8, none⟩ = some v8 ∧ w.cell? ⟨b3, o9, none⟩ = some v9)) :
    (w'.cell? ⟨b1, o1, none⟩ = some v1 ∧ w'.cell? ⟨b1, o2, none⟩ = some v2 ∧ w'.cell? ⟨b1, o3, none⟩ = some v3) ∧ (w'.cell? ⟨b2, o4, none⟩ = some v4 ∧ w'.cell? ⟨b2, o5, none⟩ = some v5 ∧ w'.cell? ⟨b2, o6, none⟩ = some v6) ∧ (w'.cell? ⟨b3, o7, none⟩ = some v7 ∧ w'.cell? ⟨b3, o8, none⟩ = some v8 ∧ w'.cell? ⟨b3, o9, none⟩ = some v9) :=
  ⟨pk3 hb h1 h1 h1 h.1, pk3 hb h2 h2 h2 h.2.1, pk3 hb h3 h3 h3 h.2.2⟩
end Go.Proofs.Ytamklliaibfljaa
