/-
  Sums of a field's elements: combine of the program, l03Sum of the reference. Conditions: those of each theorem.
-/
import Derived.Test.YtbbaeopobnpnmaaFldN
import Derived.Deep.RegionHeld3
import Derived.BigRegion
namespace Go.Proofs.Ytbbaeopobnpnmaa
open Go.RowKit
set_option linter.unusedVariables false
set_option linter.unusedSimpArgs false

/-- A field that lies in a box. -/
structure FldC (w : World) (B p k : Nat) (A : Option Addr) (n c : Nat) : Prop where
  c0 : w.cell? ⟨B, 0, none⟩ = some (.int .i64 (p : Int))
  c1 : w.cell? ⟨B, 1, none⟩ = some (.int .i64 (k : Int))
  c2 : w.cell? ⟨B, 2, none⟩ = some (.slice A n c)
theorem FldC.lt {w : World} {B p k : Nat} {A : Option Addr} {n c : Nat} (h : FldC w B p k A n c) : B < w.heap.size := cell_size h.c0
theorem FldC.step {w w' : World} {B p k lo : Nat} {A : Option Addr} {n c : Nat} (h : FldC w B p k A n c) (hl : B < lo) (hb : Below lo w w') : FldC w' B p k A n c :=
  ⟨(hb.cell (p := ⟨B, 0, none⟩) hl).trans h.c0, (hb.cell (p := ⟨B, 1, none⟩) hl).trans h.c1, (hb.cell (p := ⟨B, 2, none⟩) hl).trans h.c2⟩
theorem FldC.below {w w' : World} {B p k : Nat} {A : Option Addr} {n c : Nat} (h : FldC w B p k A n c) (hb : Below w.heap.size w w') : FldC w' B p k A n c := h.step h.lt hb
theorem FldC.drewN {w : World} {B p k : Nat} {A : Option Addr} {n c : Nat} (h : FldC w B p k A n c) (m : Nat) : FldC (w.drewN m) B p k A n c := ⟨h.c0, h.c1, h.c2⟩
theorem FldC.made (w : World) (p k : Nat) (A : Option Addr) (n c : Nat) (T : TypeId) : FldC (w.alloc (.cells #[.int .i64 (p : Int), .int .i64 (k : Int), .slice A n c] T)) w.heap.size p k A n c := by
  constructor <;> simp [go_sem]

theorem FldC.setCell_other {w : World} {B p k : Nat} {A : Option Addr} {n c : Nat} (h : FldC w B p k A n c) {q : Addr} (hq : B ≠ q.block) (u : Value) : FldC (w.setCell q u) B p k A n c :=
  ⟨(World.cell?_of_block (a := ⟨B, 0, none⟩) (Below.heap_setCell w q u B hq)).trans h.c0, (World.cell?_of_block (a := ⟨B, 1, none⟩) (Below.heap_setCell w q u B hq)).trans h.c1, (World.cell?_of_block (a := ⟨B, 2, none⟩) (Below.heap_setCell w q u B hq)).trans h.c2⟩
theorem keepF {w w' : World} {B : Nat} {v0 v1 : Value} (hb : Below w.heap.size w w') (hB : B < w.heap.size) (h0 : w.cell? ⟨B, 0, none⟩ = some v0) (h1 : w.cell? ⟨B, 1, none⟩ = some v1) : w'.cell? ⟨B, 0, none⟩ = some v0 ∧ w'.cell? ⟨B, 1, none⟩ = some v1 :=
  ⟨(hb.cell (p := ⟨B, 0, none⟩) hB).trans h0, (hb.cell (p := ⟨B, 1, none⟩) hB).trans h1⟩
theorem keepF2 {w w' : World} {B m : Nat} {v0 v1 : Value} (hb : Below w.heap.size w w') (hm : m ≤ w.heap.size) (hB : B < m) (h : w.cell? ⟨B, 0, none⟩ = some v0 ∧ w.cell? ⟨B, 1, none⟩ = some v1) : w'.cell? ⟨B, 0, none⟩ = some v0 ∧ w'.cell? ⟨B, 1, none⟩ = some v1 :=
  keepF hb (by omega) h.1 h.2

set_option maxHeartbeats 8000000 in
set_option maxRecDepth 10000 in
theorem combine_c (w : World) (p k : Nat) (A : Option Addr) (n c a b : Nat) (s : Int) (hF : FldOk p k) (ha : a ≤ 1000000) (hb : b ≤ 1000000) (hs1 : -1 ≤ s) (hs2 : s ≤ 1) :
    Calls Try.prog 25 #[.agg #[.int .i64 (p : Int), .int .i64 (k : Int), .slice A n c], .int .i64 (a : Int), .int .i64 (b : Int), .int .i64 s] w (PostV w (.int .i64 ((cmbF p k s a b : Nat) : Int))) := by
  obtain ⟨hp, hp2, hk1, hk6, hF5⟩ := hF
  have HT := Lib.hid (cmbF_eq (k := k) (show 0 < p by omega) s a b).1
  obtain ⟨T, hT⟩ : ∃ T, T = ((cmbF p k s a b : Nat) : Int) := ⟨_, rfl⟩
  rw [← hT] at HT ⊢
  clear hT
  have HBx0 := Lib.hid (below_boxed w (.cells #[.int .i64 (p : Int), .int .i64 (k : Int), .slice A n c] 39))
  have HX0 := Lib.hid (FldC.made w p k A n c 39)
  obtain ⟨wb, hwb⟩ : ∃ wb, wb = w.alloc (.cells #[.int .i64 (p : Int), .int .i64 (k : Int), .slice A n c] 39) := ⟨_, rfl⟩
  rw [← hwb] at HBx0 HX0
  have HWb := Lib.hid hwb
  have HD1 := Lib.hid (fun W => digitsOf_c W a p k ha hp hp2 (by omega))
  have HD2 := Lib.hid (fun W => digitsOf_c W b p k hb hp hp2 (by omega))
  have hc0 := HX0.out.c0
  have hc1 := HX0.out.c1
  have hpz : ((p : Int) == 0) = false := by simp; omega
  have hpn : (p : Int) ≠ 0 := by omega
  have hpn2 : ¬ p = 0 := by omega
  have hxl := HX0.out.lt
  clear hwb
  go_enter Try.func25, Try.ntmps25
  go_wp2
  rw [← HWb.out]
  go_region_held3 (fun w' => w'.cell? ⟨w.heap.size, 0, none⟩ = some (.int .i64 (p : Int)) ∧ w'.cell? ⟨w.heap.size, 1, none⟩ = some (.int .i64 (k : Int))) (first | exact ⟨hc0, hc1⟩ | exact hS4 | exact hS6)
    (first | (go_at_call 42; (with_reducible refine (HD1.out wb.drew).mono ?_); rintro e w4 ⟨⟨A4, n4, c4, rfl, hn4, ho4⟩, hb4⟩; have hS4 := keepF hb4 hxl hc0 hc1) | (go_at_call 42; (with_reducible refine (HD2.out w4).mono ?_); rintro e w6 ⟨⟨A6, n6, c6, rfl, hn6, ho6⟩, hb6⟩; have hS6 := keepF2 hb6 hb4.size hxl hS4))
  have HX4 := Lib.hid ((HX0.out.drewN 1).step (w' := w4) (lo := wb.heap.size) hxl hb4)
  have HB4 := Lib.hid (show Below w.heap.size w w4 from HBx0.out.drew.trans (hb4.mono (show w.heap.size ≤ wb.heap.size from HBx0.out.size)))
  clear hc0 hc1 hS4 hS6
  have hz4b : wb.heap.size ≤ w4.heap.size := hb4.size
  have hxw : w.heap.size + 1 ≤ wb.heap.size := hxl
  have hz4 := hb4.size
  have hz6 := hb6.size
  obtain rfl : k = n4 := by rw [← hn4, digL_len]
  obtain rfl : k = n6 := by rw [← hn6, digL_len]
  obtain ⟨g4, rfl, hg4, hg4s, _, _⟩ := ho4.at_ (k := 0) (by rw [digL_len]; omega)
  obtain ⟨g6, rfl, hg6, hg6s, _, _⟩ := ho6.at_ (k := 0) (by rw [digL_len]; omega)
  have HX6 := Lib.hid (HX4.out.below hb6)
  have HB6 := Lib.hid (HB4.out.trans (hb6.mono HB4.out.size))
  have HO4 := Lib.hid (show OwnI w6 (w.heap.size + 0) (some ⟨g4, 0, none⟩) c4 (cmbT p s (digL p a k) (digL p b k) 0) from by rw [cmbT_zero]; exact (ho4.below hb6).lower (by show _ ≤ wb.heap.size; omega))
  have HO6 := Lib.hid ho6
  have hg46 : g4 < g6 := by omega
  have hgB : w.heap.size < g4 ∧ w.heap.size ≤ g4 := by have h9 : wb.heap.size ≤ g4 := hg4; omega
  clear hb4 hb6 ho4 ho6 hn4 hn6
  go_wp2
  go_loopw [26] (fun v wr => ∃ j : Nat, j ≤ k ∧ v = .int .i64 j ∧ Hid (OwnI wr (w.heap.size + 0) (some ⟨g4, 0, none⟩) c4 (cmbT p s (digL p a k) (digL p b k) j)) ∧ Hid (OwnI wr w4.heap.size (some ⟨g6, 0, none⟩) c6 (digL p b k)) ∧ Hid (FldC wr w.heap.size p k A n c) ∧ Hid (Below w.heap.size w wr)) (fun v _ => k - (intOf v).toNat)
  case atStart => exact ⟨0, Nat.zero_le _, rfl, HO4, HO6, HX6, HB6⟩
  case round =>
    obtain ⟨j, hj, rfl, HOx, HOy, HX, HB⟩ := hrel
    by_cases hjk : j < k
    · skip
      obtain ⟨x, hx⟩ : ∃ x : Nat, dg p a j = (x : Int) := ⟨_, rfl⟩
      obtain ⟨y, hy⟩ : ∃ y : Nat, dg p b j = (y : Int) := ⟨_, rfl⟩
      have hxp : x < p := by have := (dg_in (show 0 < p by omega) a j).2; omega
      have hyp : y < p := by have := (dg_in (show 0 < p by omega) b j).2; omega
      obtain ⟨g1, eg1, _, _, hcx, hfx⟩ := HOx.out.at_ (k := j) (by rw [cmbT_len (by rw [digL_len]; omega), digL_len]; exact hjk)
      injection eg1 with eg1
      injection eg1 with eg1
      subst eg1
      obtain ⟨g2, eg2, _, _, hcy, _⟩ := HOy.out.at_ (k := j) (by rw [digL_len]; exact hjk)
      injection eg2 with eg2
      injection eg2 with eg2
      subst eg2
      rw [cmbT_nth (by rw [digL_len]; exact hjk), nth_digL hjk, hx] at hcx
      rw [nth_digL hjk, hy] at hcy
      obtain ⟨q, hq⟩ : ∃ q : Int, q = s * (y : Int) := ⟨_, rfl⟩
      have hmi := mod_in (p := p) (by omega) ((x : Int) + q)
      obtain ⟨v, hv⟩ : ∃ v : Nat, ((x : Int) + q) % (p : Int) = (v : Int) := ⟨(((x : Int) + q) % (p : Int)).toNat, by omega⟩
      have hst := HOx.out.stored j (v : Int)
      have hcs := cmbT_succ (p := p) (s := s) (xs := digL p a k) (ys := digL p b k) (j := j) (by rw [digL_len]; exact hjk)
      rw [nth_digL hjk, nth_digL hjk, hx, hy, ← hq, hv] at hcs
      rw [hcs] at hst
      have HO7 := Lib.hid hst
      have HOy7 := Lib.hid (HOy.out.setCell_other (p := ⟨g4, j, none⟩) (fun g e => by injection e with e; injection e with e; show g ≠ g4; omega) (.int .i64 (v : Int)))
      have HX7 := Lib.hid (HX.out.setCell_other (q := ⟨g4, j, none⟩) (show w.heap.size ≠ g4 by omega) (.int .i64 (v : Int)))
      have HB7 := Lib.hid (HB.out.setCell (p := ⟨g4, j, none⟩) (show w.heap.size ≤ g4 by omega) (.int .i64 (v : Int)))
      have hq2 : -64 ≤ q ∧ q ≤ 64 * 64 := by
        rw [hq]
        by_cases e : s = -1
        · subst e; omega
        · have h1 : 0 ≤ s * (y : Int) := Int.mul_nonneg (by omega) (by omega)
          have h2 : s * (y : Int) ≤ 64 * (y : Int) := Int.mul_le_mul_of_nonneg_right (by omega) (by omega)
          omega
      have hqp : 0 ≤ q + (p : Int) := by
        rw [hq]
        by_cases e : s = -1
        · subst e; omega
        · have h1 : 0 ≤ s * (y : Int) := Int.mul_nonneg (by omega) (by omega)
          omega
      have hj0 : (0 : Int) ≤ (j : Int) := by omega
      have hj1 : (j : Int) < (k : Int) := by omega
      clear hst hcs hx hy hmi
      have hw1 : IntKind.i64.wrap (s * (y : Int)) = q := by rw [← hq]; exact IntWalk.i64_in _ (by omega)
      have hw2 : IntKind.i64.wrap ((x : Int) + q) = (x : Int) + q := IntWalk.i64_in _ (by omega)
      have hw3 : IntKind.i64.wrap ((x : Int) + q + (p : Int)) = (x : Int) + q + (p : Int) := IntWalk.i64_in _ (by omega)
      have hv1 : ((x : Int) + q + (p : Int)).tmod (p : Int) = (v : Int) := by rw [Int.tmod_eq_emod_of_nonneg (by omega), Int.add_emod_right]; exact hv
      have hx0 := HX.out.c0
      clear hq hv
      go_wp2
      go_region
      all_goals (clear hw1 hw2 hv1 hx0 hcx hcy)
      all_goals go_wp2
      all_goals go_roundw
      case rel => exact ⟨j + 1, by omega, by go_num, HO7, HOy7, Lib.hid (HX7.out.drewN 1), Lib.hid HB7.out.drew⟩
      case measure => simp [intOf] <;> omega
    · obtain rfl : j = k := by omega
      have HOf := Lib.hid (show RdI wr (some ⟨g4, 0, none⟩) c4 (cmbL p j s a b) from by have := HOx.out.rd; rwa [cmbT_all (digL_len p a j)] at this)
      have HNu := Lib.hid (numberOf_c wr (some ⟨g4, 0, none⟩) j c4 (cmbL p j s a b) p HOf.out (cmb_len _ _ _ _ _) hp hp2 (cmb_in (by omega) _ _ _ _) hF5 (by omega))
      have hx0 := HX.out.c0
      have HBf := HB
      go_wp2_with fail
      refine (HNu.out).mono ?_
      rintro e w' ⟨rfl, rfl⟩
      go_wp2
      go_ret
      exact ⟨by rw [← HT.out]; rfl, HBf.out⟩

set_option maxHeartbeats 8000000 in
set_option maxRecDepth 10000 in
theorem l03Sum_c (w : World) (Bf p k : Nat) (A : Option Addr) (n c a b : Nat) (s : Int) (hX : FldC w Bf p k A n c) (hF : FldOk p k) (ha : a ≤ 1000000) (hb : b ≤ 1000000) (hs1 : 0 ≤ s) (hs2 : s ≤ 64) :
    Calls Try.prog 39 #[.pointer (some ⟨Bf, 0, none⟩), .int .i64 (a : Int), .int .i64 (b : Int), .int .i64 s] w (PostV w (.int .i64 ((cmbF p k s a b : Nat) : Int))) := by
  obtain ⟨hp, hp2, hk1, hk6, hF5⟩ := hF
  have HT := Lib.hid (cmbF_eq (k := k) (show 0 < p by omega) s a b).1
  obtain ⟨T, hT⟩ : ∃ T, T = ((cmbF p k s a b : Nat) : Int) := ⟨_, rfl⟩
  rw [← hT] at HT ⊢
  clear hT
  have HX0 := Lib.hid hX
  have HD1 := Lib.hid (fun W => l03Digits_c W a p k ha hp hp2 (by omega))
  have HD2 := Lib.hid (fun W => l03Digits_c W b p k hb hp hp2 (by omega))
  have hc0 := HX0.out.c0
  have hc1 := HX0.out.c1
  have hpz : ((p : Int) == 0) = false := by simp; omega
  have hpn : (p : Int) ≠ 0 := by omega
  have hpn2 : ¬ p = 0 := by omega
  have hxl := HX0.out.lt
  clear hX
  go_enter Try.func39, Try.ntmps39
  go_wp2
  go_region_held3 (fun w' => w'.cell? ⟨Bf, 0, none⟩ = some (.int .i64 (p : Int)) ∧ w'.cell? ⟨Bf, 1, none⟩ = some (.int .i64 (k : Int))) (first | exact ⟨hc0, hc1⟩ | exact hS4)
    (first | (go_at_call 56; (with_reducible refine (HD1.out w.drew).mono ?_); rintro e w4 ⟨⟨A4, n4, c4, rfl, hn4, ho4⟩, hb4⟩; have hS4 := keepF hb4 hxl hc0 hc1))
  have HX4 := Lib.hid ((HX0.out.drewN 1).step (w' := w4) (lo := w.heap.size) hxl hb4)
  have HB4 := Lib.hid (show Below w.heap.size w w4 from (Below.refl w.heap.size w).drew.trans hb4)
  have hz4b : w.heap.size ≤ w4.heap.size := hb4.size
  clear hc0 hc1 hS4
  have hc0 := HX4.out.c0
  have hc1 := HX4.out.c1
  have hxl4 := HX4.out.lt
  go_wp2
  go_region_held3 (fun w' => w'.cell? ⟨Bf, 0, none⟩ = some (.int .i64 (p : Int)) ∧ w'.cell? ⟨Bf, 1, none⟩ = some (.int .i64 (k : Int))) (first | exact ⟨hc0, hc1⟩ | exact hS6)
    (first | (go_at_call 56; (with_reducible refine (HD2.out w4.drew).mono ?_); rintro e w6 ⟨⟨A6, n6, c6, rfl, hn6, ho6⟩, hb6⟩; have hS6 := keepF hb6 hxl4 hc0 hc1))
  have hb6 : Below w4.heap.size w4 w6 := (Below.refl w4.heap.size w4).drew.trans hb6
  have ho6 : OwnI w6 w4.heap.size A6 c6 (digL p b k) := ho6
  clear hc0 hc1 hS6
  have hz4 := hb4.size
  have hz6 := hb6.size
  obtain rfl : k = n4 := by rw [← hn4, digL_len]
  obtain rfl : k = n6 := by rw [← hn6, digL_len]
  obtain ⟨g4, rfl, hg4, hg4s, _, _⟩ := ho4.at_ (k := 0) (by rw [digL_len]; omega)
  obtain ⟨g6, rfl, hg6, hg6s, _, _⟩ := ho6.at_ (k := 0) (by rw [digL_len]; omega)
  have HX6 := Lib.hid (HX4.out.below hb6)
  have HB6 := Lib.hid (HB4.out.trans (hb6.mono HB4.out.size))
  have HO4 := Lib.hid (show OwnI w6 (w.heap.size + 0) (some ⟨g4, 0, none⟩) c4 (cmbT p s (digL p a k) (digL p b k) 0) from by rw [cmbT_zero]; exact (ho4.below hb6).lower (by show _ ≤ w.heap.size; omega))
  have HO6 := Lib.hid ho6
  have hg46 : g4 < g6 := by omega
  have hgB : Bf < g4 ∧ w.heap.size ≤ g4 := by have h9 : w.heap.size ≤ g4 := hg4; omega
  clear hb4 hb6 ho4 ho6 hn4 hn6
  go_wp2
  go_loopw [11] (fun v wr => ∃ j : Nat, j ≤ k ∧ v = .int .i64 j ∧ Hid (OwnI wr (w.heap.size + 0) (some ⟨g4, 0, none⟩) c4 (cmbT p s (digL p a k) (digL p b k) j)) ∧ Hid (OwnI wr w4.heap.size (some ⟨g6, 0, none⟩) c6 (digL p b k)) ∧ Hid (FldC wr Bf p k A n c) ∧ Hid (Below w.heap.size w wr)) (fun v _ => k - (intOf v).toNat)
  case atStart => exact ⟨0, Nat.zero_le _, rfl, HO4, HO6, HX6, HB6⟩
  case round =>
    obtain ⟨j, hj, rfl, HOx, HOy, HX, HB⟩ := hrel
    by_cases hjk : j < k
    · skip
      obtain ⟨x, hx⟩ : ∃ x : Nat, dg p a j = (x : Int) := ⟨_, rfl⟩
      obtain ⟨y, hy⟩ : ∃ y : Nat, dg p b j = (y : Int) := ⟨_, rfl⟩
      have hxp : x < p := by have := (dg_in (show 0 < p by omega) a j).2; omega
      have hyp : y < p := by have := (dg_in (show 0 < p by omega) b j).2; omega
      obtain ⟨g1, eg1, _, _, hcx, hfx⟩ := HOx.out.at_ (k := j) (by rw [cmbT_len (by rw [digL_len]; omega), digL_len]; exact hjk)
      injection eg1 with eg1
      injection eg1 with eg1
      subst eg1
      obtain ⟨g2, eg2, _, _, hcy, _⟩ := HOy.out.at_ (k := j) (by rw [digL_len]; exact hjk)
      injection eg2 with eg2
      injection eg2 with eg2
      subst eg2
      rw [cmbT_nth (by rw [digL_len]; exact hjk), nth_digL hjk, hx] at hcx
      rw [nth_digL hjk, hy] at hcy
      obtain ⟨q, hq⟩ : ∃ q : Int, q = s * (y : Int) := ⟨_, rfl⟩
      have hmi := mod_in (p := p) (by omega) ((x : Int) + q)
      obtain ⟨v, hv⟩ : ∃ v : Nat, ((x : Int) + q) % (p : Int) = (v : Int) := ⟨(((x : Int) + q) % (p : Int)).toNat, by omega⟩
      have hst := HOx.out.stored j (v : Int)
      have hcs := cmbT_succ (p := p) (s := s) (xs := digL p a k) (ys := digL p b k) (j := j) (by rw [digL_len]; exact hjk)
      rw [nth_digL hjk, nth_digL hjk, hx, hy, ← hq, hv] at hcs
      rw [hcs] at hst
      have HO7 := Lib.hid hst
      have HOy7 := Lib.hid (HOy.out.setCell_other (p := ⟨g4, j, none⟩) (fun g e => by injection e with e; injection e with e; show g ≠ g4; omega) (.int .i64 (v : Int)))
      have HX7 := Lib.hid (HX.out.setCell_other (q := ⟨g4, j, none⟩) (show Bf ≠ g4 by omega) (.int .i64 (v : Int)))
      have HB7 := Lib.hid (HB.out.setCell (p := ⟨g4, j, none⟩) (show w.heap.size ≤ g4 by omega) (.int .i64 (v : Int)))
      have hq2 : -64 ≤ q ∧ q ≤ 64 * 64 := by
        rw [hq]
        by_cases e : s = -1
        · subst e; omega
        · have h1 : 0 ≤ s * (y : Int) := Int.mul_nonneg (by omega) (by omega)
          have h2 : s * (y : Int) ≤ 64 * (y : Int) := Int.mul_le_mul_of_nonneg_right (by omega) (by omega)
          omega
      have hqp : 0 ≤ q + (p : Int) := by
        rw [hq]
        by_cases e : s = -1
        · subst e; omega
        · have h1 : 0 ≤ s * (y : Int) := Int.mul_nonneg (by omega) (by omega)
          omega
      have hj0 : (0 : Int) ≤ (j : Int) := by omega
      have hj1 : (j : Int) < (k : Int) := by omega
      clear hst hcs hx hy hmi
      have hw1 : IntKind.i64.wrap (s * (y : Int)) = q := by rw [← hq]; exact IntWalk.i64_in _ (by omega)
      have hw2 : IntKind.i64.wrap ((x : Int) + q) = (x : Int) + q := IntWalk.i64_in _ (by omega)
      have hq0 : 0 ≤ q := by rw [hq]; exact Int.mul_nonneg (by omega) (by omega)
      have hv1 : ((x : Int) + q).tmod (p : Int) = (v : Int) := by rw [Int.tmod_eq_emod_of_nonneg (by omega)]; exact hv
      have hx0 := HX.out.c0
      clear hq hv
      go_wp2
      go_region
      all_goals (clear hw1 hw2 hv1 hx0 hcx hcy)
      all_goals go_wp2
      all_goals go_roundw
      case rel => exact ⟨j + 1, by omega, by go_num, HO7, HOy7, Lib.hid (HX7.out.drewN 1), Lib.hid HB7.out.drew⟩
      case measure => simp [intOf] <;> omega
    · obtain rfl : j = k := by omega
      have HOf := Lib.hid (show RdI wr (some ⟨g4, 0, none⟩) c4 (cmbL p j s a b) from by have := HOx.out.rd; rwa [cmbT_all (digL_len p a j)] at this)
      have HNu := Lib.hid (l03Number_c wr (some ⟨g4, 0, none⟩) j c4 (cmbL p j s a b) p HOf.out (cmb_len _ _ _ _ _) hp hp2 (cmb_in (by omega) _ _ _ _) hF5 (by omega))
      have hx0 := HX.out.c0
      have HBf := HB
      go_wp2_with fail
      refine (HNu.out).mono ?_
      rintro e w' ⟨rfl, rfl⟩
      go_wp2
      go_ret
      exact ⟨by rw [← HT.out]; rfl, HBf.out⟩
end Go.Proofs.Ytbbaeopobnpnmaa
