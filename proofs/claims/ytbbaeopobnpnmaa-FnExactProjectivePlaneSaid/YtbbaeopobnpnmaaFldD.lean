/-
  Products of a field's elements: product of the program, l03Mul of the reference. Conditions: those of each theorem.
-/
import Derived.Test.YtbbaeopobnpnmaaFldC
namespace Go.Proofs.Ytbbaeopobnpnmaa
open Go.RowKit
set_option linter.unusedVariables false
set_option linter.unusedSimpArgs false

theorem keepG {w w' : World} {B : Nat} {v0 v2 : Value} (hb : Below w.heap.size w w') (hB : B < w.heap.size) (h0 : w.cell? ⟨B, 0, none⟩ = some v0) (h2 : w.cell? ⟨B, 2, none⟩ = some v2) : w'.cell? ⟨B, 0, none⟩ = some v0 ∧ w'.cell? ⟨B, 2, none⟩ = some v2 :=
  ⟨(hb.cell (p := ⟨B, 0, none⟩) hB).trans h0, (hb.cell (p := ⟨B, 2, none⟩) hB).trans h2⟩

set_option maxHeartbeats 8000000 in
set_option maxRecDepth 10000 in
theorem product_c (w : World) (p k : Nat) (A : Option Addr) (n c a b : Nat) (poly : List Int) (hF : FldOk p k) (ha : a ≤ 1000000) (hb : b ≤ 1000000) (hP : RdI w A c poly) (hPn : poly.length = n) (hn1 : n ≤ k + 1) (hn2 : k + 1 ≤ n) (hPI : InP p poly) :
    Calls Try.prog 30 #[.agg #[.int .i64 (p : Int), .int .i64 (k : Int), .slice A n c], .int .i64 (a : Int), .int .i64 (b : Int)] w (PostV w (.int .i64 ((mulF p k poly a b : Nat) : Int))) := by
  obtain ⟨hp, hp2, hk1, hk6, hF5⟩ := hF
  have HT := Lib.hid (mulF_eq (k := k) (show 0 < p by omega) (show 0 < k by omega) poly a b).1
  obtain ⟨T, hT⟩ : ∃ T, T = ((mulF p k poly a b : Nat) : Int) := ⟨_, rfl⟩
  rw [← hT] at HT ⊢
  have HBx0 := Lib.hid (below_boxed w (.cells #[.int .i64 (p : Int), .int .i64 (k : Int), .slice A n c] 39))
  have HX0 := Lib.hid (FldC.made w p k A n c 39)
  obtain ⟨wb, hwb⟩ : ∃ wb, wb = w.alloc (.cells #[.int .i64 (p : Int), .int .i64 (k : Int), .slice A n c] 39) := ⟨_, rfl⟩
  rw [← hwb] at HBx0 HX0
  have HWb := Lib.hid hwb
  have HD1 := Lib.hid (fun W => digitsOf_c W a p k ha hp hp2 (by omega))
  have HD2 := Lib.hid (fun W => digitsOf_c W b p k hb hp hp2 (by omega))
  have HP := Lib.hid hP
  have HPn := Lib.hid hPn
  have HPI := Lib.hid hPI
  have hc0 := HX0.out.c0
  have hc1 := HX0.out.c1
  have hpz : ((p : Int) == 0) = false := by simp; omega
  have hpn : (p : Int) ≠ 0 := by omega
  have hpn2 : ¬ p = 0 := by omega
  have hxl := HX0.out.lt
  obtain ⟨m, hm⟩ : ∃ m, m = 2 * k := ⟨_, rfl⟩
  have HW := Lib.hid (show rem p poly k (mlO p (digL p a k) (digL p b k) (List.replicate m 0) k) = mulL p k poly a b by rw [hm]; exact mulL_wide (by omega) (by omega) poly a b)
  have hm1 : 2 * k ≤ m + 1 := by omega
  have hm2 : m ≤ 12 := by omega
  have hm3 : k ≤ m := by omega
  have hwm : IntKind.i64.wrap (2 * (k : Int)) = (m : Int) := by rw [show 2 * (k : Int) = (m : Int) by omega]; exact IntWalk.i64_in _ (by omega)
  clear hwb hT hP hPn hPI hm
  go_enter Try.func30, Try.ntmps30
  go_wp2
  rw [← HWb.out]
  go_region_held3 (fun w' => w'.cell? ⟨w.heap.size, 0, none⟩ = some (.int .i64 (p : Int)) ∧ w'.cell? ⟨w.heap.size, 1, none⟩ = some (.int .i64 (k : Int))) (first | exact ⟨hc0, hc1⟩ | exact hS4 | exact hS6)
    (first | (go_at_call 42; (with_reducible refine (HD1.out wb.drew).mono ?_); rintro e w4 ⟨⟨A4, n4, c4, rfl, hn4, ho4⟩, hb4⟩; have hS4 := keepF hb4 hxl hc0 hc1) | (go_at_call 42; (with_reducible refine (HD2.out w4).mono ?_); rintro e w6 ⟨⟨A6, n6, c6, rfl, hn6, ho6⟩, hb6⟩; have hS6 := keepF2 hb6 hb4.size hxl hS4))
  have HX4 := Lib.hid ((HX0.out.drewN 1).step (w' := w4) (lo := wb.heap.size) hxl hb4)
  have HB4 := Lib.hid (show Below w.heap.size w w4 from HBx0.out.drew.trans (hb4.mono (show w.heap.size ≤ wb.heap.size from HBx0.out.size)))
  clear hc0 hc1 hS4 hS6
  have hz4b : wb.heap.size ≤ w4.heap.size := hb4.size
  have hxw : w.heap.size + 1 ≤ wb.heap.size := hxl
  have hz4 := hb4.size
  have hz6 := hb6.size
  obtain rfl : k = n4 := by rw [← hn4, digL_len]
  obtain rfl : k = n6 := by rw [← hn6, digL_len]
  obtain ⟨g4, rfl, hg4, hg4s, _, _⟩ := ho4.at_ (k := 0) (by rw [digL_len]; omega)
  obtain ⟨g6, rfl, hg6, hg6s, _, _⟩ := ho6.at_ (k := 0) (by rw [digL_len]; omega)
  have HX6 := Lib.hid (HX4.out.below hb6)
  have HB6 := Lib.hid (HB4.out.trans (hb6.mono HB4.out.size))
  have HO4 := Lib.hid (show OwnI w6 (w.heap.size + 0) (some ⟨g4, 0, none⟩) c4 (digL p a k) from (ho4.below hb6).lower (by show _ ≤ wb.heap.size; omega))
  have HO6 := Lib.hid (show OwnI w6 (w.heap.size + 0) (some ⟨g6, 0, none⟩) c6 (digL p b k) from ho6.lower (by omega))
  have hg46 : g4 < g6 := by omega
  have hgB : w.heap.size < g4 ∧ w.heap.size ≤ g4 := by have h9 : wb.heap.size ≤ g4 := hg4; omega
  have hc1 := HX6.out.c1
  have hmk := fun W : World => run_make_row' (P := Try.prog) 37 2 (.int .i64 0) 8 Try.underlying37 infoI rfl .i64 .i64 m (by omega) (by omega) W
  have HM0 := Lib.hid (OwnI.made w6 m (by unfold maxLen; omega) (Nat.le_refl w6.heap.size))
  have HMb := Lib.hid ((Below.refl w6.heap.size w6).alloc (Nat.le_refl _) (.cells (madeCells #[.int .i64 0] m) 2))
  obtain ⟨G, hG⟩ : ∃ G, G = w6.heap.size := ⟨_, rfl⟩
  clear hb4 hb6 ho4 ho6 hn4 hn6
  go_wp2
  rw [← hG] at HM0 HMb ⊢
  generalize (w6.alloc (.cells (madeCells #[.int .i64 0] m) 2)) = w7 at *
  have hGs : g6 < G := by omega
  have HMb2 := Lib.hid (show Below w6.heap.size w6 w7 from by rw [← hG]; exact HMb.out)
  have HO7 := Lib.hid (HO4.out.below HMb2.out)
  have HP7 := Lib.hid (HO6.out.below HMb2.out)
  have HX7 := Lib.hid (HX6.out.below HMb2.out)
  have HB7 := Lib.hid (HB6.out.trans (HMb2.out.mono HB6.out.size))
  have HZ7 := Lib.hid (show OwnI w7 (w.heap.size + 0) (some ⟨G, 0, none⟩) m (mlO p (digL p a k) (digL p b k) (List.replicate m 0) 0) from HM0.out.lower (by omega))
  have HLo := Lib.hid (fun i => show (mlO p (digL p a k) (digL p b k) (List.replicate m 0) i).length = m by rw [mlO_len, List.length_replicate])
  have HIo := Lib.hid (fun i => mlO_in (p := p) (by omega) (xs := digL p a k) (ys := digL p b k) (InP.zeros (p := p) (by omega) m) i)
  clear hmk hG hc1
  go_loopw [30] (fun v wr => ∃ i : Nat, i ≤ k ∧ v = .int .i64 i ∧ Hid (OwnI wr (w.heap.size + 0) (some ⟨G, 0, none⟩) m (mlO p (digL p a k) (digL p b k) (List.replicate m 0) i)) ∧ Hid (OwnI wr (w.heap.size + 0) (some ⟨g4, 0, none⟩) c4 (digL p a k)) ∧ Hid (OwnI wr (w.heap.size + 0) (some ⟨g6, 0, none⟩) c6 (digL p b k)) ∧ Hid (FldC wr w.heap.size p k A n c) ∧ Hid (Below w.heap.size w wr)) (fun v _ => k - (intOf v).toNat)
  case atStart => exact ⟨0, Nat.zero_le _, rfl, HZ7, HO7, HP7, HX7, HB7⟩
  case round =>
    obtain ⟨i, hi, rfl, HZ, HOx, HOy, HX, HB⟩ := hrel
    by_cases hik : i < k
    · have hi0 : (0 : Int) ≤ (i : Int) := by omega
      have hi1 : (i : Int) < (k : Int) := by omega
      have HLi := Lib.hid (fun j => show (mlI p (digL p a k) (digL p b k) i (mlO p (digL p a k) (digL p b k) (List.replicate m 0) i) j).length = m by rw [mlI_len]; exact HLo.out i)
      have HIi := Lib.hid (fun j => mlI_in (p := p) (by omega) (xs := digL p a k) (ys := digL p b k) (i := i) (HIo.out i) j)
      obtain ⟨wo, rfl⟩ : ∃ wo, wo = wr := ⟨_, rfl⟩
      go_wp2
      go_loopw [35] (fun v wr => ∃ j : Nat, j ≤ k ∧ v = .int .i64 j ∧ Hid (OwnI wr (w.heap.size + 0) (some ⟨G, 0, none⟩) m (mlI p (digL p a k) (digL p b k) i (mlO p (digL p a k) (digL p b k) (List.replicate m 0) i) j)) ∧ Hid (OwnI wr (w.heap.size + 0) (some ⟨g4, 0, none⟩) c4 (digL p a k)) ∧ Hid (OwnI wr (w.heap.size + 0) (some ⟨g6, 0, none⟩) c6 (digL p b k)) ∧ Hid (FldC wr w.heap.size p k A n c) ∧ Hid (Below w.heap.size w wr)) (fun v _ => k - (intOf v).toNat)
      case atStart => exact ⟨0, Nat.zero_le _, rfl, HZ, HOx, HOy, HX, HB⟩
      case round =>
        obtain ⟨j, hj, rfl, HZ, HOx, HOy, HX, HB⟩ := hrel
        by_cases hjk : j < k
        · skip
          obtain ⟨x, hx⟩ : ∃ x : Nat, dg p a i = (x : Int) := ⟨_, rfl⟩
          obtain ⟨y, hy⟩ : ∃ y : Nat, dg p b j = (y : Int) := ⟨_, rfl⟩
          have hxp : x < p := by have := (dg_in (show 0 < p by omega) a i).2; omega
          have hyp : y < p := by have := (dg_in (show 0 < p by omega) b j).2; omega
          obtain ⟨g1, eg1, _, _, hcx, _⟩ := HOx.out.at_ (k := i) (by rw [digL_len]; exact hik)
          injection eg1 with eg1
          injection eg1 with eg1
          subst eg1
          obtain ⟨g2, eg2, _, _, hcy, _⟩ := HOy.out.at_ (k := j) (by rw [digL_len]; exact hjk)
          injection eg2 with eg2
          injection eg2 with eg2
          subst eg2
          rw [nth_digL hik, hx] at hcx
          rw [nth_digL hjk, hy] at hcy
          have hijm : i + j < m := by omega
          obtain ⟨u, hu⟩ : ∃ u : Nat, nth (mlI p (digL p a k) (digL p b k) i (mlO p (digL p a k) (digL p b k) (List.replicate m 0) i) j) (i + j) = (u : Int) := ⟨(nth (mlI p (digL p a k) (digL p b k) i (mlO p (digL p a k) (digL p b k) (List.replicate m 0) i) j) (i + j)).toNat, by have := HIi.out j (i + j) (by rw [HLi.out]; exact hijm); omega⟩
          have hup : u < p := by have := HIi.out j (i + j) (by rw [HLi.out]; exact hijm); omega
          obtain ⟨g3, eg3, _, _, hcz, hfz⟩ := HZ.out.at_ (k := i + j) (by rw [HLi.out]; exact hijm)
          injection eg3 with eg3
          injection eg3 with eg3
          subst eg3
          rw [hu] at hcz
          obtain ⟨q, hq⟩ : ∃ q, q = x * y := ⟨_, rfl⟩
          have hq2 : q ≤ 64 * 64 := by rw [hq]; exact Nat.mul_le_mul (by omega) (by omega)
          have hmi := mod_in (p := p) (by omega) ((u : Int) + (q : Int))
          obtain ⟨v, hv⟩ : ∃ v : Nat, ((u : Int) + (q : Int)) % (p : Int) = (v : Int) := ⟨(((u : Int) + (q : Int)) % (p : Int)).toNat, by omega⟩
          have hst := HZ.out.stored (i + j) (v : Int)
          have HZ8 := Lib.hid (show OwnI (wr.setCell ⟨G, i + j, none⟩ (.int .i64 (v : Int))) (w.heap.size + 0) (some ⟨G, 0, none⟩) m (mlI p (digL p a k) (digL p b k) i (mlO p (digL p a k) (digL p b k) (List.replicate m 0) i) (j + 1)) from by
            rw [mlI, hu, nth_digL hik, nth_digL hjk, hx, hy, ← Int.natCast_mul, ← hq, hv]; exact hst)
          have HOx8 := Lib.hid (HOx.out.setCell_other (p := ⟨G, i + j, none⟩) (fun g e => by injection e with e; injection e with e; show g ≠ G; omega) (.int .i64 (v : Int)))
          have HOy8 := Lib.hid (HOy.out.setCell_other (p := ⟨G, i + j, none⟩) (fun g e => by injection e with e; injection e with e; show g ≠ G; omega) (.int .i64 (v : Int)))
          have HX8 := Lib.hid (HX.out.setCell_other (q := ⟨G, i + j, none⟩) (show w.heap.size ≠ G by omega) (.int .i64 (v : Int)))
          have HB8 := Lib.hid (HB.out.setCell (p := ⟨G, i + j, none⟩) (show w.heap.size ≤ G by omega) (.int .i64 (v : Int)))
          have hw1 : IntKind.i64.wrap ((x : Int) * (y : Int)) = (q : Int) := by rw [← Int.natCast_mul, ← hq]; exact IntWalk.i64_in _ (by omega)
          have hw2 : IntKind.i64.wrap ((u : Int) + (q : Int)) = (u : Int) + (q : Int) := IntWalk.i64_in _ (by omega)
          have hv1 : ((u : Int) + (q : Int)).tmod (p : Int) = (v : Int) := by rw [Int.tmod_eq_emod_of_nonneg (by omega)]; exact hv
          have hwi : IntKind.i64.wrap ((i : Int) + (j : Int)) = (i : Int) + (j : Int) := IntWalk.i64_in _ (by omega)
          have hx0 := HX.out.c0
          have hj0 : (0 : Int) ≤ (j : Int) := by omega
          have hj1 : (j : Int) < (k : Int) := by omega
          have hij0 : (0 : Int) ≤ (i : Int) + (j : Int) := by omega
          have hij1 : (i : Int) + (j : Int) < (m : Int) := by omega
          clear hst hx hy hu hmi
          clear hq hv
          go_wp2
          go_region
          all_goals (clear hw1 hw2 hv1 hx0 hcx hcy hcz)
          all_goals go_wp2
          all_goals go_roundw
          case rel => exact ⟨j + 1, by omega, by go_num, HZ8, HOx8, HOy8, Lib.hid (HX8.out.drewN 1), Lib.hid HB8.out.drew⟩
          case measure => simp [intOf] <;> omega
        · obtain rfl : j = k := by omega
          have HZ8 := Lib.hid (show OwnI wr (w.heap.size + 0) (some ⟨G, 0, none⟩) m (mlO p (digL p a j) (digL p b j) (List.replicate m 0) (i + 1)) from by rw [mlO, digL_len]; exact HZ.out)
          go_wp2
          go_roundw
          case rel => exact ⟨i + 1, by omega, by go_num, HZ8, HOx, HOy, HX, HB⟩
          case measure => simp [intOf] <;> omega
    · obtain rfl : i = k := by omega
      have hc0 := HX.out.c0
      have hc2 := HX.out.c2
      have hxr := HX.out.lt
      have HRm := Lib.hid (remainder_c wr.drew (some ⟨G, 0, none⟩) A m n m c _ poly p i (HZ.out.rd.drewN 1) (HLo.out i) ((HP.out.below HB.out).drewN 1) HPn.out hp hp2 (HIo.out i) HPI.out (by omega) hk1 (by omega) hn1 hn2)
      rw [HW.out] at HRm
      have HLm := Lib.hid (mulL_len (p := p) (k := i) (by omega) poly a b)
      have HNu := Lib.hid (fun W A5 c5 (hr5 : RdI W A5 c5 (mulL p i poly a b)) => numberOf_c W A5 i c5 _ p hr5 HLm.out hp hp2 (mulL_in (by omega) poly a b) hF5 (by omega))
      rw [HT.out] at HNu
      go_wp2
      go_region_held3 (fun w' => w'.cell? ⟨w.heap.size, 0, none⟩ = some (.int .i64 (p : Int)) ∧ w'.cell? ⟨w.heap.size, 2, none⟩ = some (.slice A n c)) (first | exact ⟨hc0, hc2⟩ | exact hS5)
        (first | (go_at_call 51; (with_reducible refine (HRm.out).mono ?_); rintro e w5 ⟨⟨A5, n5, c5, rfl, hn5, hr5⟩, hb5⟩; obtain rfl : i = n5 := HLm.out.symm.trans hn5; have hS5 := keepG hb5 hxr hc0 hc2) | (go_at_call 48; (with_reducible refine (HNu.out w5 A5 c5 hr5).mono ?_); rintro e w' ⟨rfl, rfl⟩))
      have HBf := Lib.hid (show Below w.heap.size w w5 from HB.out.drew.trans (hb5.mono HB.out.size))
      clear hb5 hr5 hn5 hc0 hc2 hS5
      go_wp2
      go_ret
      exact ⟨rfl, HBf.out⟩

set_option maxHeartbeats 8000000 in
set_option maxRecDepth 10000 in
theorem l03Mul_c (w : World) (Bf p k : Nat) (A : Option Addr) (n c a b : Nat) (poly : List Int) (hX : FldC w Bf p k A n c) (hF : FldOk p k) (ha : a ≤ 1000000) (hb : b ≤ 1000000) (hP : RdI w A c poly) (hPn : poly.length = n) (hn1 : n ≤ k + 1) (hn2 : k + 1 ≤ n) (hPI : InP p poly) :
    Calls Try.prog 49 #[.pointer (some ⟨Bf, 0, none⟩), .int .i64 (a : Int), .int .i64 (b : Int)] w (PostV w (.int .i64 ((mulF p k poly a b : Nat) : Int))) := by
  obtain ⟨hp, hp2, hk1, hk6, hF5⟩ := hF
  have HT := Lib.hid (mulF_eq (k := k) (show 0 < p by omega) (show 0 < k by omega) poly a b).1
  obtain ⟨T, hT⟩ : ∃ T, T = ((mulF p k poly a b : Nat) : Int) := ⟨_, rfl⟩
  rw [← hT] at HT ⊢
  have HX0 := Lib.hid hX
  have HD1 := Lib.hid (fun W => l03Digits_c W a p k ha hp hp2 (by omega))
  have HD2 := Lib.hid (fun W => l03Digits_c W b p k hb hp hp2 (by omega))
  have HP := Lib.hid hP
  have HPn := Lib.hid hPn
  have HPI := Lib.hid hPI
  have hc0 := HX0.out.c0
  have hc1 := HX0.out.c1
  have hpz : ((p : Int) == 0) = false := by simp; omega
  have hpn : (p : Int) ≠ 0 := by omega
  have hpn2 : ¬ p = 0 := by omega
  have hxl := HX0.out.lt
  obtain ⟨m, hm⟩ : ∃ m, m = 2 * k - 1 := ⟨_, rfl⟩
  have HW := Lib.hid (show rem p poly k (mlO p (digL p a k) (digL p b k) (List.replicate m 0) k) = mulL p k poly a b by rw [hm]; rfl)
  have hm1 : 2 * k ≤ m + 1 := by omega
  have hm2 : m ≤ 12 := by omega
  have hm3 : k ≤ m := by omega
  have hwm0 : IntKind.i64.wrap (2 * (k : Int)) = 2 * (k : Int) := IntWalk.i64_in _ (by omega)
  have hwm : IntKind.i64.wrap (2 * (k : Int) - 1) = (m : Int) := by rw [show 2 * (k : Int) - 1 = (m : Int) by omega]; exact IntWalk.i64_in _ (by omega)
  clear hX hT hP hPn hPI hm
  go_enter Try.func49, Try.ntmps49
  go_wp2
  go_region_held3 (fun w' => w'.cell? ⟨Bf, 0, none⟩ = some (.int .i64 (p : Int)) ∧ w'.cell? ⟨Bf, 1, none⟩ = some (.int .i64 (k : Int))) (first | exact ⟨hc0, hc1⟩ | exact hS4)
    (first | (go_at_call 56; (with_reducible refine (HD1.out w.drew).mono ?_); rintro e w4 ⟨⟨A4, n4, c4, rfl, hn4, ho4⟩, hb4⟩; have hS4 := keepF hb4 hxl hc0 hc1))
  have HX4 := Lib.hid ((HX0.out.drewN 1).step (w' := w4) (lo := w.heap.size) hxl hb4)
  have HB4 := Lib.hid (show Below w.heap.size w w4 from (Below.refl w.heap.size w).drew.trans hb4)
  have hz4b : w.heap.size ≤ w4.heap.size := hb4.size
  clear hc0 hc1 hS4
  have hc0 := HX4.out.c0
  have hc1 := HX4.out.c1
  have hxl4 := HX4.out.lt
  go_wp2
  go_region_held3 (fun w' => w'.cell? ⟨Bf, 0, none⟩ = some (.int .i64 (p : Int)) ∧ w'.cell? ⟨Bf, 1, none⟩ = some (.int .i64 (k : Int))) (first | exact ⟨hc0, hc1⟩ | exact hS6)
    (first | (go_at_call 56; (with_reducible refine (HD2.out w4.drew).mono ?_); rintro e w6 ⟨⟨A6, n6, c6, rfl, hn6, ho6⟩, hb6⟩; have hS6 := keepF hb6 hxl4 hc0 hc1))
  have hb6 : Below w4.heap.size w4 w6 := (Below.refl w4.heap.size w4).drew.trans hb6
  have ho6 : OwnI w6 w4.heap.size A6 c6 (digL p b k) := ho6
  clear hc0 hc1 hS6
  have hz4 := hb4.size
  have hz6 := hb6.size
  obtain rfl : k = n4 := by rw [← hn4, digL_len]
  obtain rfl : k = n6 := by rw [← hn6, digL_len]
  obtain ⟨g4, rfl, hg4, hg4s, _, _⟩ := ho4.at_ (k := 0) (by rw [digL_len]; omega)
  obtain ⟨g6, rfl, hg6, hg6s, _, _⟩ := ho6.at_ (k := 0) (by rw [digL_len]; omega)
  have HX6 := Lib.hid (HX4.out.below hb6)
  have HB6 := Lib.hid (HB4.out.trans (hb6.mono HB4.out.size))
  have HO4 := Lib.hid (show OwnI w6 (w.heap.size + 0) (some ⟨g4, 0, none⟩) c4 (digL p a k) from (ho4.below hb6).lower (by show _ ≤ w.heap.size; omega))
  have HO6 := Lib.hid (show OwnI w6 (w.heap.size + 0) (some ⟨g6, 0, none⟩) c6 (digL p b k) from ho6.lower (by omega))
  have hg46 : g4 < g6 := by omega
  have hgB : Bf < g4 ∧ w.heap.size ≤ g4 := by have h9 : w.heap.size ≤ g4 := hg4; omega
  have hc1 := HX6.out.c1
  have hmk := fun W : World => run_make_row' (P := Try.prog) 37 2 (.int .i64 0) 8 Try.underlying37 infoI rfl .i64 .i64 m (by omega) (by omega) W
  have HM0 := Lib.hid (OwnI.made w6 m (by unfold maxLen; omega) (Nat.le_refl w6.heap.size))
  have HMb := Lib.hid ((Below.refl w6.heap.size w6).alloc (Nat.le_refl _) (.cells (madeCells #[.int .i64 0] m) 2))
  obtain ⟨G, hG⟩ : ∃ G, G = w6.heap.size := ⟨_, rfl⟩
  clear hb4 hb6 ho4 ho6 hn4 hn6
  go_wp2
  rw [← hG] at HM0 HMb ⊢
  generalize (w6.alloc (.cells (madeCells #[.int .i64 0] m) 2)) = w7 at *
  have hGs : g6 < G := by omega
  have HMb2 := Lib.hid (show Below w6.heap.size w6 w7 from by rw [← hG]; exact HMb.out)
  have HO7 := Lib.hid (HO4.out.below HMb2.out)
  have HP7 := Lib.hid (HO6.out.below HMb2.out)
  have HX7 := Lib.hid (HX6.out.below HMb2.out)
  have HB7 := Lib.hid (HB6.out.trans (HMb2.out.mono HB6.out.size))
  have HZ7 := Lib.hid (show OwnI w7 (w.heap.size + 0) (some ⟨G, 0, none⟩) m (mlO p (digL p a k) (digL p b k) (List.replicate m 0) 0) from HM0.out.lower (by omega))
  have HLo := Lib.hid (fun i => show (mlO p (digL p a k) (digL p b k) (List.replicate m 0) i).length = m by rw [mlO_len, List.length_replicate])
  have HIo := Lib.hid (fun i => mlO_in (p := p) (by omega) (xs := digL p a k) (ys := digL p b k) (InP.zeros (p := p) (by omega) m) i)
  clear hmk hG hc1
  go_loopw [10] (fun v wr => ∃ i : Nat, i ≤ k ∧ v = .int .i64 i ∧ Hid (OwnI wr (w.heap.size + 0) (some ⟨G, 0, none⟩) m (mlO p (digL p a k) (digL p b k) (List.replicate m 0) i)) ∧ Hid (OwnI wr (w.heap.size + 0) (some ⟨g4, 0, none⟩) c4 (digL p a k)) ∧ Hid (OwnI wr (w.heap.size + 0) (some ⟨g6, 0, none⟩) c6 (digL p b k)) ∧ Hid (FldC wr Bf p k A n c) ∧ Hid (Below w.heap.size w wr)) (fun v _ => k - (intOf v).toNat)
  case atStart => exact ⟨0, Nat.zero_le _, rfl, HZ7, HO7, HP7, HX7, HB7⟩
  case round =>
    obtain ⟨i, hi, rfl, HZ, HOx, HOy, HX, HB⟩ := hrel
    by_cases hik : i < k
    · have hi0 : (0 : Int) ≤ (i : Int) := by omega
      have hi1 : (i : Int) < (k : Int) := by omega
      have HLi := Lib.hid (fun j => show (mlI p (digL p a k) (digL p b k) i (mlO p (digL p a k) (digL p b k) (List.replicate m 0) i) j).length = m by rw [mlI_len]; exact HLo.out i)
      have HIi := Lib.hid (fun j => mlI_in (p := p) (by omega) (xs := digL p a k) (ys := digL p b k) (i := i) (HIo.out i) j)
      obtain ⟨wo, rfl⟩ : ∃ wo, wo = wr := ⟨_, rfl⟩
      go_wp2
      go_loopw [11] (fun v wr => ∃ j : Nat, j ≤ k ∧ v = .int .i64 j ∧ Hid (OwnI wr (w.heap.size + 0) (some ⟨G, 0, none⟩) m (mlI p (digL p a k) (digL p b k) i (mlO p (digL p a k) (digL p b k) (List.replicate m 0) i) j)) ∧ Hid (OwnI wr (w.heap.size + 0) (some ⟨g4, 0, none⟩) c4 (digL p a k)) ∧ Hid (OwnI wr (w.heap.size + 0) (some ⟨g6, 0, none⟩) c6 (digL p b k)) ∧ Hid (FldC wr Bf p k A n c) ∧ Hid (Below w.heap.size w wr)) (fun v _ => k - (intOf v).toNat)
      case atStart => exact ⟨0, Nat.zero_le _, rfl, HZ, HOx, HOy, HX, HB⟩
      case round =>
        obtain ⟨j, hj, rfl, HZ, HOx, HOy, HX, HB⟩ := hrel
        by_cases hjk : j < k
        · skip
          obtain ⟨x, hx⟩ : ∃ x : Nat, dg p a i = (x : Int) := ⟨_, rfl⟩
          obtain ⟨y, hy⟩ : ∃ y : Nat, dg p b j = (y : Int) := ⟨_, rfl⟩
          have hxp : x < p := by have := (dg_in (show 0 < p by omega) a i).2; omega
          have hyp : y < p := by have := (dg_in (show 0 < p by omega) b j).2; omega
          obtain ⟨g1, eg1, _, _, hcx, _⟩ := HOx.out.at_ (k := i) (by rw [digL_len]; exact hik)
          injection eg1 with eg1
          injection eg1 with eg1
          subst eg1
          obtain ⟨g2, eg2, _, _, hcy, _⟩ := HOy.out.at_ (k := j) (by rw [digL_len]; exact hjk)
          injection eg2 with eg2
          injection eg2 with eg2
          subst eg2
          rw [nth_digL hik, hx] at hcx
          rw [nth_digL hjk, hy] at hcy
          have hijm : i + j < m := by omega
          obtain ⟨u, hu⟩ : ∃ u : Nat, nth (mlI p (digL p a k) (digL p b k) i (mlO p (digL p a k) (digL p b k) (List.replicate m 0) i) j) (i + j) = (u : Int) := ⟨(nth (mlI p (digL p a k) (digL p b k) i (mlO p (digL p a k) (digL p b k) (List.replicate m 0) i) j) (i + j)).toNat, by have := HIi.out j (i + j) (by rw [HLi.out]; exact hijm); omega⟩
          have hup : u < p := by have := HIi.out j (i + j) (by rw [HLi.out]; exact hijm); omega
          obtain ⟨g3, eg3, _, _, hcz, hfz⟩ := HZ.out.at_ (k := i + j) (by rw [HLi.out]; exact hijm)
          injection eg3 with eg3
          injection eg3 with eg3
          subst eg3
          rw [hu] at hcz
          obtain ⟨q, hq⟩ : ∃ q, q = x * y := ⟨_, rfl⟩
          have hq2 : q ≤ 64 * 64 := by rw [hq]; exact Nat.mul_le_mul (by omega) (by omega)
          have hmi := mod_in (p := p) (by omega) ((u : Int) + (q : Int))
          obtain ⟨v, hv⟩ : ∃ v : Nat, ((u : Int) + (q : Int)) % (p : Int) = (v : Int) := ⟨(((u : Int) + (q : Int)) % (p : Int)).toNat, by omega⟩
          have hst := HZ.out.stored (i + j) (v : Int)
          have HZ8 := Lib.hid (show OwnI (wr.setCell ⟨G, i + j, none⟩ (.int .i64 (v : Int))) (w.heap.size + 0) (some ⟨G, 0, none⟩) m (mlI p (digL p a k) (digL p b k) i (mlO p (digL p a k) (digL p b k) (List.replicate m 0) i) (j + 1)) from by
            rw [mlI, hu, nth_digL hik, nth_digL hjk, hx, hy, ← Int.natCast_mul, ← hq, hv]; exact hst)
          have HOx8 := Lib.hid (HOx.out.setCell_other (p := ⟨G, i + j, none⟩) (fun g e => by injection e with e; injection e with e; show g ≠ G; omega) (.int .i64 (v : Int)))
          have HOy8 := Lib.hid (HOy.out.setCell_other (p := ⟨G, i + j, none⟩) (fun g e => by injection e with e; injection e with e; show g ≠ G; omega) (.int .i64 (v : Int)))
          have HX8 := Lib.hid (HX.out.setCell_other (q := ⟨G, i + j, none⟩) (show Bf ≠ G by omega) (.int .i64 (v : Int)))
          have HB8 := Lib.hid (HB.out.setCell (p := ⟨G, i + j, none⟩) (show w.heap.size ≤ G by omega) (.int .i64 (v : Int)))
          have hw1 : IntKind.i64.wrap ((x : Int) * (y : Int)) = (q : Int) := by rw [← Int.natCast_mul, ← hq]; exact IntWalk.i64_in _ (by omega)
          have hw2 : IntKind.i64.wrap ((u : Int) + (q : Int)) = (u : Int) + (q : Int) := IntWalk.i64_in _ (by omega)
          have hv1 : ((u : Int) + (q : Int)).tmod (p : Int) = (v : Int) := by rw [Int.tmod_eq_emod_of_nonneg (by omega)]; exact hv
          have hwi : IntKind.i64.wrap ((i : Int) + (j : Int)) = (i : Int) + (j : Int) := IntWalk.i64_in _ (by omega)
          have hx0 := HX.out.c0
          have hj0 : (0 : Int) ≤ (j : Int) := by omega
          have hj1 : (j : Int) < (k : Int) := by omega
          have hij0 : (0 : Int) ≤ (i : Int) + (j : Int) := by omega
          have hij1 : (i : Int) + (j : Int) < (m : Int) := by omega
          clear hst hx hy hu hmi
          clear hq hv
          go_wp2
          go_region
          all_goals (clear hw1 hw2 hv1 hx0 hcx hcy hcz)
          all_goals go_wp2
          all_goals go_roundw
          case rel => exact ⟨j + 1, by omega, by go_num, HZ8, HOx8, HOy8, Lib.hid (HX8.out.drewN 1), Lib.hid HB8.out.drew⟩
          case measure => simp [intOf] <;> omega
        · obtain rfl : j = k := by omega
          have HZ8 := Lib.hid (show OwnI wr (w.heap.size + 0) (some ⟨G, 0, none⟩) m (mlO p (digL p a j) (digL p b j) (List.replicate m 0) (i + 1)) from by rw [mlO, digL_len]; exact HZ.out)
          go_wp2
          go_roundw
          case rel => exact ⟨i + 1, by omega, by go_num, HZ8, HOx, HOy, HX, HB⟩
          case measure => simp [intOf] <;> omega
    · obtain rfl : i = k := by omega
      have hc0 := HX.out.c0
      have hc2 := HX.out.c2
      have hxr := HX.out.lt
      have HRm := Lib.hid (l03Rest_c wr.drew (some ⟨G, 0, none⟩) A m n m c _ poly p i (HZ.out.rd.drewN 1) (HLo.out i) ((HP.out.below HB.out).drewN 1) HPn.out hp hp2 (HIo.out i) HPI.out (by omega) hk1 (by omega) hn1 hn2)
      rw [HW.out] at HRm
      have HLm := Lib.hid (mulL_len (p := p) (k := i) (by omega) poly a b)
      have HNu := Lib.hid (fun W A5 c5 (hr5 : RdI W A5 c5 (mulL p i poly a b)) => l03Number_c W A5 i c5 _ p hr5 HLm.out hp hp2 (mulL_in (by omega) poly a b) hF5 (by omega))
      rw [HT.out] at HNu
      go_wp2
      go_region_held3 (fun w' => w'.cell? ⟨Bf, 0, none⟩ = some (.int .i64 (p : Int)) ∧ w'.cell? ⟨Bf, 2, none⟩ = some (.slice A n c)) (first | exact ⟨hc0, hc2⟩ | exact hS5)
        (first | (go_at_call 69; (with_reducible refine (HRm.out).mono ?_); rintro e w5 ⟨⟨A5, n5, c5, rfl, hn5, hr5⟩, hb5⟩; obtain rfl : i = n5 := HLm.out.symm.trans hn5; have hS5 := keepG hb5 hxr hc0 hc2) | (go_at_call 60; (with_reducible refine (HNu.out w5 A5 c5 hr5).mono ?_); rintro e w' ⟨rfl, rfl⟩))
      have HBf := Lib.hid (show Below w.heap.size w w5 from HB.out.drew.trans (hb5.mono HB.out.size))
      clear hb5 hr5 hn5 hc0 hc2 hS5
      go_wp2
      go_ret
      exact ⟨rfl, HBf.out⟩
end Go.Proofs.Ytbbaeopobnpnmaa
