/-
  mixed of the program: the mixed blocks of MakeTriples. Conditions: those of each theorem.
-/
import Derived.Test.YtambaonoeppblaaTrpB
namespace Go.Proofs.Ytambaonoeppblaa
open Go.RowKit
set_option linter.unusedVariables false
set_option linter.unusedSimpArgs false

theorem OwnM.by_below {w w' : World} {lo : Nat} {A : Option Addr} {c : Nat} {R : Spine} {xss : List (List Int)} (h : OwnM w lo A c R xss) (hb : Below w.heap.size w w') : OwnM w' lo A c R xss := h.below hb

set_option maxRecDepth 100000 in
set_option maxHeartbeats 4000000 in
theorem mixed_c (w : World) (n : Nat) (hn1 : 1 ≤ n) (hn2 : n ≤ 27) (g : Nat) (lb : Array Value) (f : Nat → Nat) (eg : ∀ args w, (callFunc g args).run Try.prog w = .ok (.enter g args) w) (hf : ∀ s, s < n → f s ≤ 27)
    (hp : ∀ W (s : Nat), s < n → Below w.heap.size w W → Calls Try.prog g (#[.int .i64 (s : Int)] ++ lb) W (PostV W (.int .i64 (f s : Int)))) :
    Calls Try.prog 24 #[.int .i64 (n : Int), .func (.func g) #[] lb] w (PostM w (mxX f n n)) := by
  have HP := Lib.hid hp
  have HF := Lib.hid hf
  have HE0 := Lib.hid (OwnM.nil_ w w.heap.size (fun _ => (none, 0)))
  have HEb0 := Lib.hid (Below.refl w.heap.size w)
  have hz0 : ((n : Int) == 0) = false := by simp; omega
  have hz1 : (n : Int) ≠ 0 := by omega
  clear hp hf
  go_enter Try.func24, Try.ntmps24
  go_wp2
  go_loopw [5, 6, 7, 8] (fun o v _ _ wr => ∃ (x s : Nat) (A' : Option Addr) (c' : Nat) (R' : Spine), x ≤ n ∧ v = .int .i64 x ∧ o = .slice A' s c' ∧ Hid ((mxX f n x).length = s) ∧ s ≤ 100 * x ∧ Hid (OwnM wr w.heap.size A' c' R' (mxX f n x)) ∧ Hid (Below w.heap.size w wr)) (fun _ v _ _ _ => n - (intOf v).toNat)
  case atStart => exact ⟨0, 0, _, _, _, Nat.zero_le _, rfl, rfl, Lib.hid rfl, Nat.zero_le _, HE0, HEb0⟩
  case round =>
    obtain ⟨x, s, A', c', R', hx, rfl, rfl, HS, hs, HO, HB⟩ := hrel
    by_cases hxn : x < n
    · have hx0 : (0 : Int) ≤ (x : Int) := by omega
      have hx2 : (x : Int) < (n : Int) := by omega
      obtain ⟨wo, rfl⟩ : ∃ wo, wo = wr := ⟨_, rfl⟩
      go_wp2
      go_loopw [5, 7, 8] (fun o v _ wr => ∃ (y s : Nat) (A' : Option Addr) (c' : Nat) (R' : Spine), x < y ∧ y ≤ n ∧ v = .int .i64 y ∧ o = .slice A' s c' ∧ Hid ((mxX f n x ++ mxY f n x y).length = s) ∧ s ≤ 100 * x + 3 * y ∧ Hid (OwnM wr w.heap.size A' c' R' (mxX f n x ++ mxY f n x y)) ∧ Hid (Below w.heap.size w wr)) (fun _ v _ _ => n - (intOf v).toNat)
      case atStart => exact ⟨x + 1, s, _, _, _, by omega, by omega, by go_num, rfl, Lib.hid (by rw [mxY_zero, List.append_nil]; exact HS.out), by omega, Lib.hid (by rw [mxY_zero, List.append_nil]; exact HO.out), HB⟩
      case round =>
        obtain ⟨y, s2, A2, c2, R2, hxy, hy, rfl, rfl, HS2, hs2, HO2, HB2⟩ := hrel
        by_cases hyn : y < n
        · have hy0 : (0 : Int) ≤ (y : Int) := by omega
          have hy2 : (y : Int) < (n : Int) := by omega
          obtain ⟨wq, rfl⟩ : ∃ wq, wq = wr := ⟨_, rfl⟩
          go_wp2
          go_loopw [5, 8] (fun o v wr => ∃ (i s : Nat) (A' : Option Addr) (c' : Nat) (R' : Spine), i ≤ 3 ∧ v = .int .i64 i ∧ o = .slice A' s c' ∧ Hid ((mxX f n x ++ mxY f n x y ++ mxI f n x y i).length = s) ∧ s ≤ s2 + i ∧ Hid (OwnM wr w.heap.size A' c' R' (mxX f n x ++ mxY f n x y ++ mxI f n x y i)) ∧ Hid (Below w.heap.size w wr)) (fun _ v _ => 3 - (intOf v).toNat)
          case atStart => exact ⟨0, s2, _, _, _, Nat.zero_le _, rfl, rfl, Lib.hid (by rw [show mxI f n x y 0 = [] from rfl, List.append_nil]; exact HS2.out), by omega, Lib.hid (by rw [show mxI f n x y 0 = [] from rfl, List.append_nil]; exact HO2.out), HB2⟩
          case round =>
            obtain ⟨i, s3, A3, c3, R3, hi, rfl, rfl, HS3, hs3, HO3, HB3⟩ := hrel
            by_cases hi3 : i < 3
            · have HT := Lib.hid (show mxX f n x ++ mxY f n x y ++ mxI f n x y (i + 1) = (mxX f n x ++ mxY f n x y ++ mxI f n x y i) ++ [mxB f n x y i] by rw [mxI_succ]; simp only [List.append_assoc])
              obtain ⟨q, hq⟩ : ∃ q, q = (x + y) % n := ⟨_, rfl⟩
              have hqn : q < n := by rw [hq]; exact Nat.mod_lt _ (by omega)
              have hqf := HF.out q hqn
              have HPk := Lib.hid (HP.out wr q hqn HB3.out)
              obtain ⟨u, hu⟩ : ∃ u, u = n * i := ⟨_, rfl⟩
              obtain ⟨j, hj⟩ : ∃ j, j = (i + 1) % 3 := ⟨_, rfl⟩
              obtain ⟨u2, hu2⟩ : ∃ u2, u2 = n * j := ⟨_, rfl⟩
              obtain ⟨z, hz⟩ : ∃ z, z = f q := ⟨_, rfl⟩
              have hul : u ≤ 81 := by rw [hu]; exact Nat.le_trans (Nat.mul_le_mul hn2 (show i ≤ 3 by omega)) (by omega)
              have hul2 : u2 ≤ 81 := by rw [hu2]; exact Nat.le_trans (Nat.mul_le_mul hn2 (show j ≤ 3 by omega)) (by omega)
              have hB : mxB f n x y i = trp ((x : Int) + (u : Int)) ((y : Int) + (u : Int)) ((z : Int) + (u2 : Int)) := by unfold mxB; rw [← hq, ← hu, ← hj, ← hu2, ← hz]
              rw [hB] at HT
              rw [← hz] at HPk hqf
              have hw1 : IntKind.i64.wrap ((n : Int) * (i : Int)) = (u : Int) := by rw [← Int.natCast_mul, ← hu]; exact IntWalk.i64_in _ (by omega)
              have hw2 : IntKind.i64.wrap ((n : Int) * (j : Int)) = (u2 : Int) := by rw [← Int.natCast_mul, ← hu2]; exact IntWalk.i64_in _ (by omega)
              have hr1 : ((x : Int) + (y : Int)).tmod (n : Int) = (q : Int) := by rw [hq, Int.natCast_emod, Int.natCast_add]; exact Int.tmod_eq_emod_of_nonneg (by omega)
              have hr2 : ((x : Int) + (y : Int)) % (n : Int) = (q : Int) := by rw [hq, Int.natCast_emod, Int.natCast_add]
              have hr3 : ((i : Int) + 1).tmod 3 = (j : Int) := by rw [hj, Int.natCast_emod, Int.natCast_add]; exact Int.tmod_eq_emod_of_nonneg (by omega)
              have hr4 : ((i : Int) + 1) % 3 = (j : Int) := by omega
              have hj3 : j ≤ 2 := by omega
              clear hq hu hj hu2 hz hB
              go_wp2_with fail
              refine (HPk.out).mono ?_
              rintro e w3 ⟨rfl, hb3⟩
              have HB4 := Lib.hid (HB3.out.trans (hb3.mono HB3.out.size))
              have HO4 := Lib.hid (HO3.out.below hb3)
              clear hb3
              go_wp2_with fail
              refine (triple_c w3 _ _ _).mono ?_
              rintro e w4 ⟨⟨A4, n4, c4, rfl, hn4, ho4⟩, hb4⟩
              have hzr : w.heap.size ≤ w3.heap.size := HB4.out.size
              have hB4 : Below w.heap.size w w4 := HB4.out.trans (hb4.mono hzr)
              have hz4 := hB4.size
              have HN4 := Lib.hid hn4
              have HX4 := Lib.hid ((ho4.lower (lo' := w.heap.size) hzr).alloc (.cells #[.slice A4 n4 c4] 32))
              have HE4 := Lib.hid ((HO4.out.below hb4).alloc (.cells #[.slice A4 n4 c4] 32))
              have HAp4 := Lib.hid (later_apart HO4.out ho4)
              have HB4 := Lib.hid (hB4.alloc hz4 (.cells #[.slice A4 n4 c4] 32))
              clear hn4 ho4 hb4 hB4 hzr
              go_wp2_with (at_builtin
                           refine wpM_append rfl _ _ rfl w.heap.size _ _ _ R3 (mxX f n x ++ mxY f n x y ++ mxI f n x y i) A4 n4 c4 (trp ((x : Int) + (u : Int)) ((y : Int) + (u : Int)) ((z : Int) + (u2 : Int))) w4.heap.size rfl rfl (HS3.out) HN4.out HE4.out HX4.out HAp4.out (World.cell?_alloc_at _ _ _ _ rfl) (by omega) (by simp; omega) ?_
                           intro A5 c5 R5 w5 ho5 hg5 ha5)
              have HB5 := Lib.hid (HB4.out.trans (below_blkM HE4.out hg5 (Nat.le_refl _) (by simp; omega)))
              have HO5 := Lib.hid ho5
              clear ho5 hg5 ha5
              have HO6 := Lib.hid (show OwnM w5 w.heap.size A5 c5 R5 (mxX f n x ++ mxY f n x y ++ mxI f n x y (i + 1)) from by rw [HT.out]; exact HO5.out)
              have HS6 := Lib.hid (show (mxX f n x ++ mxY f n x y ++ mxI f n x y (i + 1)).length = s3 + 1 from by rw [HT.out, List.length_append, HS3.out]; rfl)
              go_wp2
              go_roundw
              case rel => exact ⟨i + 1, s3 + 1, A5, c5, R5, by omega, by go_num, rfl, HS6, by omega, HO6, HB5⟩
              case measure => simp [intOf]; omega
            · obtain rfl : i = 3 := by omega
              have HT := Lib.hid (show mxX f n x ++ mxY f n x (y + 1) = mxX f n x ++ mxY f n x y ++ mxI f n x y 3 by rw [mxY_succ hxy]; simp only [List.append_assoc])
              have HO6 := Lib.hid (show OwnM wr w.heap.size A3 c3 R3 (mxX f n x ++ mxY f n x (y + 1)) from by rw [HT.out]; exact HO3.out)
              have HS6 := Lib.hid (show (mxX f n x ++ mxY f n x (y + 1)).length = s3 from by rw [HT.out]; exact HS3.out)
              go_wp2
              go_roundw
              case rel => exact ⟨y + 1, s3, A3, c3, R3, by omega, by omega, by go_num, rfl, HS6, by omega, HO6, HB3⟩
              case measure => simp [intOf]; omega
        · obtain rfl : y = n := by omega
          have HT := Lib.hid (mxX_succ f y x)
          have HO6 := Lib.hid (show OwnM wr w.heap.size A2 c2 R2 (mxX f y (x + 1)) from by rw [HT.out]; exact HO2.out)
          have HS6 := Lib.hid (show (mxX f y (x + 1)).length = s2 from by rw [HT.out]; exact HS2.out)
          go_wp2
          go_roundw
          case rel => exact ⟨x + 1, s2, A2, c2, R2, by omega, by go_num, rfl, HS6, by omega, HO6, HB2⟩
          case measure => simp [intOf]; omega
    · obtain rfl : x = n := by omega
      go_wp2
      go_ret
      exact ⟨⟨A', s, c', R', rfl, HS.out, HO.out⟩, HB.out⟩
end Go.Proofs.Ytambaonoeppblaa
