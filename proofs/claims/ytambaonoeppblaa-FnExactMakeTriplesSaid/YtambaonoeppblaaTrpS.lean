/-
  The reference's blocks of MakeTriples: l11Bose, l11Skolem. Conditions: those of each theorem.
-/
import Derived.Test.YtambaonoeppblaaTrpM
namespace Go.Proofs.Ytambaonoeppblaa
open Go.RowKit
set_option linter.unusedVariables false
set_option linter.unusedSimpArgs false

theorem mx_ne {n i x z : Nat} (hi : i < 3) (hx : x < n) (hz : z < n) : (x : Int) + ((n * i : Nat) : Int) ≠ (z : Int) + ((n * ((i + 1) % 3) : Nat) : Int) := by
  rcases (show i = 0 ∨ i = 1 ∨ i = 2 by omega) with rfl | rfl | rfl <;> simp <;> omega
theorem ldB_eq (n x : Nat) : ldB n x = trp (x : Int) ((x : Int) + (n : Int)) ((x : Int) + 2 * (n : Int)) := by unfold ldB; rw [Int.natCast_mul]; rfl

set_option maxRecDepth 100000 in
set_option maxHeartbeats 4000000 in
theorem l11Bose_c (w : World) (t : Nat) (ht : t ≤ 4) : Calls Try.prog 46 #[.int .i64 (t : Int)] w (PostM w (bsX (boF t (2 * t + 1)) (2 * t + 1) (2 * t + 1))) := by
  obtain ⟨n, hn⟩ : ∃ n, n = 2 * t + 1 := ⟨_, rfl⟩
  obtain ⟨f, hf⟩ : ∃ f, f = boF t n := ⟨_, rfl⟩
  rw [← hn, ← hf]
  have hn2 : n ≤ 27 := by omega
  have hn1 : 1 ≤ n := by omega
  have HF := Lib.hid hf
  have hw0 : IntKind.i64.wrap (2 * (t : Int)) = 2 * (t : Int) := IntWalk.i64_in _ (by omega)
  have hw9 : IntKind.i64.wrap (2 * (t : Int) + 1) = (n : Int) := by rw [show 2 * (t : Int) + 1 = (n : Int) by omega]; exact IntWalk.i64_in _ (by omega)
  have hz0 : ((n : Int) == 0) = false := by simp; omega
  have hz1 : (n : Int) ≠ 0 := by omega
  have HE0 := Lib.hid (OwnM.lit0 w (Nat.le_refl w.heap.size) (fun _ => (none, 0)))
  have HEb0 := Lib.hid ((Below.refl w.heap.size w).alloc (Nat.le_refl _) (.cells #[] 32))
  clear hf hn
  go_enter Try.func46, Try.ntmps46
  go_wp2
  go_loopw [4, 5, 6, 7, 8] (fun o v _ _ _ wr => ∃ (x s : Nat) (A' : Option Addr) (c' : Nat) (R' : Spine), x ≤ n ∧ v = .int .i64 x ∧ o = .slice A' s c' ∧ Hid ((bsX f n x).length = s) ∧ s ≤ 100 * x ∧ Hid (OwnM wr w.heap.size A' c' R' (bsX f n x)) ∧ Hid (Below w.heap.size w wr)) (fun _ v _ _ _ _ => n - (intOf v).toNat)
  case atStart => exact ⟨0, 0, _, _, _, Nat.zero_le _, rfl, rfl, Lib.hid rfl, Nat.zero_le _, HE0, HEb0⟩
  case round =>
    obtain ⟨x, s, A', c', R', hx, rfl, rfl, HS, hs, HO, HB⟩ := hrel
    by_cases hxn : x < n
    · have hx0 : (0 : Int) ≤ (x : Int) := by omega
      have hx2 : (x : Int) < (n : Int) := by omega
      have HL := Lib.hid (ldB_eq n x)
      have HCl := Lib.hid (l11Block_t wr (x := (x : Int)) (y := (x : Int) + (n : Int)) (z := (x : Int) + 2 * (n : Int)) (by omega) (by omega) (by omega))
      go_wp2_with fail
      refine (HCl.out).mono ?_
      rintro e w4 ⟨⟨A4, n4, c4, rfl, hn4, ho4⟩, hb4⟩
      have hzr : w.heap.size ≤ wr.heap.size := HB.out.size
      have hB4 : Below w.heap.size w w4 := HB.out.trans (hb4.mono hzr)
      have hz4 := hB4.size
      have HN4 := Lib.hid hn4
      have HX4 := Lib.hid ((ho4.lower (lo' := w.heap.size) hzr).alloc (.cells #[.slice A4 n4 c4] 32))
      have HE4 := Lib.hid ((HO.out.below hb4).alloc (.cells #[.slice A4 n4 c4] 32))
      have HAp4 := Lib.hid (later_apart HO.out ho4)
      have HB4 := Lib.hid (hB4.alloc hz4 (.cells #[.slice A4 n4 c4] 32))
      clear hn4 ho4 hb4 hB4 hzr
      go_wp2_with (at_builtin
                   refine wpM_append rfl _ _ rfl w.heap.size _ _ _ R' (bsX f n x) A4 n4 c4 (trp (x : Int) ((x : Int) + (n : Int)) ((x : Int) + 2 * (n : Int))) w4.heap.size rfl rfl (HS.out) HN4.out HE4.out HX4.out HAp4.out (World.cell?_alloc_at _ _ _ _ rfl) (by omega) (by simp; omega) ?_
                   intro A5 c5 R5 w5 ho5 hg5 ha5)
      have HB5 := Lib.hid (HB4.out.trans (below_blkM HE4.out hg5 (Nat.le_refl _) (by simp; omega)))
      have HO5 := Lib.hid ho5
      clear ho5 hg5 ha5
      have HO6 := Lib.hid (show OwnM w5 w.heap.size A5 c5 R5 (bsX f n x ++ [ldB n x]) from by rw [HL.out]; exact HO5.out)
      have HS6 := Lib.hid (show (bsX f n x ++ [ldB n x]).length = s + 1 from by rw [List.length_append, HS.out]; rfl)
      have HB6 := Lib.hid HB5.out
      clear HO5 HB5 HX4 HE4 HAp4 HB4 HN4 HCl
      obtain ⟨wo, rfl⟩ : ∃ wo, wo = w5 := ⟨_, rfl⟩
      go_wp2
      go_loopw [4, 6, 7, 8] (fun o v _ _ wr => ∃ (y s2 : Nat) (A' : Option Addr) (c' : Nat) (R' : Spine), x < y ∧ y ≤ n ∧ v = .int .i64 y ∧ o = .slice A' s2 c' ∧ Hid ((bsX f n x ++ [ldB n x] ++ mxY f n x y).length = s2) ∧ s2 ≤ 100 * x + 3 * y + 1 ∧ Hid (OwnM wr w.heap.size A' c' R' (bsX f n x ++ [ldB n x] ++ mxY f n x y)) ∧ Hid (Below w.heap.size w wr)) (fun _ v _ _ _ => n - (intOf v).toNat)
      case atStart => exact ⟨x + 1, s + 1, _, _, _, by omega, by omega, by go_num, rfl, Lib.hid (by rw [mxY_zero, List.append_nil]; exact HS6.out), by omega, Lib.hid (by rw [mxY_zero, List.append_nil]; exact HO6.out), HB6⟩
      case round =>
        obtain ⟨y, s2, A2, c2, R2, hxy, hy, rfl, rfl, HS2, hs2, HO2, HB2⟩ := hrel
        by_cases hyn : y < n
        · have hy0 : (0 : Int) ≤ (y : Int) := by omega
          have hy2 : (y : Int) < (n : Int) := by omega
          obtain ⟨z, hz⟩ : ∃ z, z = f ((x + y) % n) := ⟨_, rfl⟩
          obtain ⟨m, hm⟩ : ∃ m, m = (t + 1) * (x + y) := ⟨_, rfl⟩
          have hml : m ≤ 5 * 54 := by rw [hm]; exact Nat.mul_le_mul (by omega) (by omega)
          have hzm : z = m % n := by rw [hz, HF.out, boF_mod, ← hm]
          have hzn : z < n := by rw [hzm]; exact Nat.mod_lt _ (by omega)
          have hw1 : IntKind.i64.wrap (((t : Int) + 1) * ((x : Int) + (y : Int))) = (m : Int) := by rw [show ((t : Int) + 1) * ((x : Int) + (y : Int)) = (m : Int) by rw [hm, Int.natCast_mul]; rfl]; exact IntWalk.i64_in _ (by omega)
          have hw2 : (m : Int).tmod (n : Int) = (z : Int) := by rw [hzm, Int.natCast_emod]; exact Int.tmod_eq_emod_of_nonneg (by omega)
          have hw3 : (m : Int) % (n : Int) = (z : Int) := by rw [hzm, Int.natCast_emod]
          have HZ := Lib.hid hz
          clear hz hm hzm
          obtain ⟨wq, rfl⟩ : ∃ wq, wq = wr := ⟨_, rfl⟩
          go_wp2
          (try clear hz4)
          (try clear hz5)
          (try clear hw6)
          (try clear hd1)
          (try clear hd2)
          go_loopw [4, 8] (fun o v wr => ∃ (i s : Nat) (A' : Option Addr) (c' : Nat) (R' : Spine), i ≤ 3 ∧ v = .int .i64 i ∧ o = .slice A' s c' ∧ Hid (((bsX f n x ++ [ldB n x]) ++ mxY f n x y ++ mxI f n x y i).length = s) ∧ s ≤ s2 + i ∧ Hid (OwnM wr w.heap.size A' c' R' ((bsX f n x ++ [ldB n x]) ++ mxY f n x y ++ mxI f n x y i)) ∧ Hid (Below w.heap.size w wr)) (fun _ v _ => 3 - (intOf v).toNat)
          case atStart => exact ⟨0, s2, _, _, _, Nat.zero_le _, rfl, rfl, Lib.hid (by rw [show mxI f n x y 0 = [] from rfl, List.append_nil]; exact HS2.out), by omega, Lib.hid (by rw [show mxI f n x y 0 = [] from rfl, List.append_nil]; exact HO2.out), HB2⟩
          case round =>
            obtain ⟨i, s3, A3, c3, R3, hi, rfl, rfl, HS3, hs3, HO3, HB3⟩ := hrel
            by_cases hi3 : i < 3
            · have HT := Lib.hid (show (bsX f n x ++ [ldB n x]) ++ mxY f n x y ++ mxI f n x y (i + 1) = ((bsX f n x ++ [ldB n x]) ++ mxY f n x y ++ mxI f n x y i) ++ [mxB f n x y i] by rw [mxI_succ]; simp only [List.append_assoc])
              obtain ⟨u, hu⟩ : ∃ u, u = n * i := ⟨_, rfl⟩
              obtain ⟨j, hj⟩ : ∃ j, j = (i + 1) % 3 := ⟨_, rfl⟩
              obtain ⟨u2, hu2⟩ : ∃ u2, u2 = n * j := ⟨_, rfl⟩
              have hul : u ≤ 81 := by rw [hu]; exact Nat.le_trans (Nat.mul_le_mul hn2 (show i ≤ 3 by omega)) (by omega)
              have hul2 : u2 ≤ 81 := by rw [hu2]; exact Nat.le_trans (Nat.mul_le_mul hn2 (show j ≤ 3 by omega)) (by omega)
              have hw1 : IntKind.i64.wrap ((n : Int) * (i : Int)) = (u : Int) := by rw [← Int.natCast_mul, ← hu]; exact IntWalk.i64_in _ (by omega)
              have hw2 : IntKind.i64.wrap ((n : Int) * (j : Int)) = (u2 : Int) := by rw [← Int.natCast_mul, ← hu2]; exact IntWalk.i64_in _ (by omega)
              have hr3 : ((i : Int) + 1).tmod 3 = (j : Int) := by rw [hj, Int.natCast_emod, Int.natCast_add]; exact Int.tmod_eq_emod_of_nonneg (by omega)
              have hr4 : ((i : Int) + 1) % 3 = (j : Int) := by omega
              have hj3 : j ≤ 2 := by omega
              have hne1 : (x : Int) + (u : Int) ≠ (y : Int) + (u : Int) := by omega
              have hne2 : (x : Int) + (u : Int) ≠ (z : Int) + (u2 : Int) := by rw [hu, hu2, hj]; exact mx_ne hi3 hxn hzn
              have hne3 : (y : Int) + (u : Int) ≠ (z : Int) + (u2 : Int) := by rw [hu, hu2, hj]; exact mx_ne hi3 hyn hzn
              have hB : mxB f n x y i = trp ((x : Int) + (u : Int)) ((y : Int) + (u : Int)) ((z : Int) + (u2 : Int)) := by unfold mxB; rw [← hu, ← hj, ← hu2, ← HZ.out]
              rw [hB] at HT
              have HNe1 := Lib.hid hne1
              have HNe2 := Lib.hid hne2
              have HNe3 := Lib.hid hne3
              clear hu hj hu2 hB hne1 hne2 hne3
              go_wp2_with fail
              refine (l11Block_t wr HNe1.out HNe2.out HNe3.out).mono ?_
              rintro e w4 ⟨⟨A4, n4, c4, rfl, hn4, ho4⟩, hb4⟩
              have hzr : w.heap.size ≤ wr.heap.size := HB3.out.size
              have hB4 : Below w.heap.size w w4 := HB3.out.trans (hb4.mono hzr)
              have hz4 := hB4.size
              have HN4 := Lib.hid hn4
              have HX4 := Lib.hid ((ho4.lower (lo' := w.heap.size) hzr).alloc (.cells #[.slice A4 n4 c4] 32))
              have HE4 := Lib.hid ((HO3.out.below hb4).alloc (.cells #[.slice A4 n4 c4] 32))
              have HAp4 := Lib.hid (later_apart HO3.out ho4)
              have HB4 := Lib.hid (hB4.alloc hz4 (.cells #[.slice A4 n4 c4] 32))
              clear hn4 ho4 hb4 hB4 hzr
              go_wp2_with (at_builtin
                           refine wpM_append rfl _ _ rfl w.heap.size _ _ _ R3 ((bsX f n x ++ [ldB n x]) ++ mxY f n x y ++ mxI f n x y i) A4 n4 c4 (trp ((x : Int) + (u : Int)) ((y : Int) + (u : Int)) ((z : Int) + (u2 : Int))) w4.heap.size rfl rfl (HS3.out) HN4.out HE4.out HX4.out HAp4.out (World.cell?_alloc_at _ _ _ _ rfl) (by omega) (by simp; omega) ?_
                           intro A5 c5 R5 w5 ho5 hg5 ha5)
              have HB5 := Lib.hid (HB4.out.trans (below_blkM HE4.out hg5 (Nat.le_refl _) (by simp; omega)))
              have HO5 := Lib.hid ho5
              clear ho5 hg5 ha5
              have HO6 := Lib.hid (show OwnM w5 w.heap.size A5 c5 R5 ((bsX f n x ++ [ldB n x]) ++ mxY f n x y ++ mxI f n x y (i + 1)) from by rw [HT.out]; exact HO5.out)
              have HS6 := Lib.hid (show ((bsX f n x ++ [ldB n x]) ++ mxY f n x y ++ mxI f n x y (i + 1)).length = s3 + 1 from by rw [HT.out, List.length_append, HS3.out]; rfl)
              go_wp2
              go_roundw
              case rel => first | exact ⟨i + 1, s3 + 1, A5, c5, R5, by omega, by go_num, rfl, HS6, by omega, HO6, HB5⟩ | ((repeat apply Exists.intro); refine ⟨?_, rfl⟩; exact ⟨i + 1, s3 + 1, A5, c5, R5, by omega, by go_num, rfl, HS6, by omega, HO6, HB5⟩)
              case measure => simp [intOf]; omega
            · obtain rfl : i = 3 := by omega
              have HT := Lib.hid (show (bsX f n x ++ [ldB n x]) ++ mxY f n x (y + 1) = (bsX f n x ++ [ldB n x]) ++ mxY f n x y ++ mxI f n x y 3 by rw [mxY_succ hxy]; simp only [List.append_assoc])
              have HO6 := Lib.hid (show OwnM wr w.heap.size A3 c3 R3 ((bsX f n x ++ [ldB n x]) ++ mxY f n x (y + 1)) from by rw [HT.out]; exact HO3.out)
              have HS6 := Lib.hid (show ((bsX f n x ++ [ldB n x]) ++ mxY f n x (y + 1)).length = s3 from by rw [HT.out]; exact HS3.out)
              go_wp2
              go_roundw
              case rel => first | exact ⟨y + 1, s3, A3, c3, R3, by omega, by omega, by go_num, rfl, HS6, by omega, HO6, HB3⟩ | ((repeat apply Exists.intro); refine ⟨?_, rfl⟩; exact ⟨y + 1, s3, A3, c3, R3, by omega, by omega, by go_num, rfl, HS6, by omega, HO6, HB3⟩)
              case measure => simp [intOf]; omega
        · obtain rfl : y = n := by omega
          have HT := Lib.hid (bsX_succ f y x)
          have HO6 := Lib.hid (show OwnM wr w.heap.size A2 c2 R2 (bsX f y (x + 1)) from by rw [HT.out]; exact HO2.out)
          have HS6 := Lib.hid (show (bsX f y (x + 1)).length = s2 from by rw [HT.out]; exact HS2.out)
          go_wp2
          go_roundw
          case rel => exact ⟨x + 1, s2, A2, c2, R2, by omega, by go_num, rfl, HS6, by omega, HO6, HB2⟩
          case measure => simp [intOf]; omega
    · obtain rfl : x = n := by omega
      go_wp2
      go_ret
      exact ⟨⟨A', s, c', R', rfl, HS.out, HO.out⟩, HB.out⟩
end Go.Proofs.Ytambaonoeppblaa
