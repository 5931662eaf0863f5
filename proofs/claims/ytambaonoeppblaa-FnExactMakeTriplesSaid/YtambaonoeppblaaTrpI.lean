/-
  MakeTriples of the program. Conditions: those of each theorem.
-/
import Derived.Test.YtambaonoeppblaaTrpT
namespace Go.Proofs.Ytambaonoeppblaa
open Go.RowKit
set_option linter.unusedVariables false
set_option linter.unusedSimpArgs false

set_option maxHeartbeats 1000000 in
theorem mt1_c (W : World) (g4 g6 t n s : Nat) (h4 : W.cell? ⟨g4, 0, none⟩ = some (.int .i64 (t : Int))) (h6 : W.cell? ⟨g6, 0, none⟩ = some (.int .i64 (n : Int))) (ht : t ≤ 4) (hn1 : 1 ≤ n) (hn : n ≤ 27) (hs : s < n) :
    Calls Try.prog 25 #[.int .i64 (s : Int), .pointer (some ⟨g4, 0, none⟩), .pointer (some ⟨g6, 0, none⟩)] W (PostV W (.int .i64 ((boF t n s : Nat) : Int))) := by
  obtain ⟨m, hm⟩ : ∃ m, m = (t + 1) * s := ⟨_, rfl⟩
  have hml : m ≤ 5 * 27 := by rw [hm]; exact Nat.mul_le_mul (by omega) (by omega)
  have hw1 : IntKind.i64.wrap (((t : Int) + 1) * (s : Int)) = (m : Int) := by rw [show ((t : Int) + 1) * (s : Int) = (m : Int) by rw [hm, Int.natCast_mul]; rfl]; exact IntWalk.i64_in _ (by omega)
  have hzm : boF t n s = m % n := by unfold boF; rw [hm]
  obtain ⟨z, hz⟩ : ∃ z, z = boF t n s := ⟨_, rfl⟩
  rw [← hz] at hzm ⊢
  have hzn : z < n := by rw [hzm]; exact Nat.mod_lt _ (by omega)
  have hw2 : (m : Int).tmod (n : Int) = (z : Int) := by rw [hzm, Int.natCast_emod]; exact Int.tmod_eq_emod_of_nonneg (by omega)
  have hw3 : (m : Int) % (n : Int) = (z : Int) := by rw [hzm, Int.natCast_emod]
  have hz0 : ((n : Int) == 0) = false := by simp; omega
  have hz1 : (n : Int) ≠ 0 := by omega
  clear hm hz hzm
  go_enter Try.func25, Try.ntmps25
  go_wp2
  go_ret
  exact ⟨rfl, Below.refl _ _⟩
set_option maxHeartbeats 1000000 in
theorem mt2_c (W : World) (g4 t s : Nat) (h4 : W.cell? ⟨g4, 0, none⟩ = some (.int .i64 (t : Int))) (ht : t ≤ 4) (hs : s ≤ 27) :
    Calls Try.prog 28 #[.int .i64 (s : Int), .pointer (some ⟨g4, 0, none⟩)] W (PostV W (.int .i64 ((skF t s : Nat) : Int))) := by
  obtain ⟨q, hq⟩ : ∃ q, q = s / 2 := ⟨_, rfl⟩
  obtain ⟨r, hr⟩ : ∃ r, r = s % 2 := ⟨_, rfl⟩
  obtain ⟨m, hm⟩ : ∃ m, m = r * t := ⟨_, rfl⟩
  have hml : m ≤ 1 * 4 := by rw [hm]; exact Nat.mul_le_mul (by omega) ht
  have hw1 : IntKind.i64.wrap ((r : Int) * (t : Int)) = (m : Int) := by rw [← Int.natCast_mul, ← hm]; exact IntWalk.i64_in _ (by omega)
  have hq1 : (s : Int) / 2 = (q : Int) := by omega
  have hq2 : (s : Int).tdiv 2 = (q : Int) := by rw [Int.tdiv_eq_ediv_of_nonneg (by omega)]; exact hq1
  have hr1 : (s : Int) % 2 = (r : Int) := by omega
  have hr2 : (s : Int).tmod 2 = (r : Int) := by rw [Int.tmod_eq_emod_of_nonneg (by omega)]; exact hr1
  have hz : skF t s = q + m := by unfold skF; rw [← hq, ← hr, ← hm]
  have hq3 : q ≤ 13 := by omega
  rw [hz, Int.natCast_add]
  clear hm hz hq hr
  go_enter Try.func28, Try.ntmps28
  go_wp2
  go_ret
  exact ⟨rfl, Below.refl _ _⟩

set_option maxRecDepth 100000 in
set_option maxHeartbeats 8000000 in
theorem implMakeTriples_c (w : World) (v : Int) (hv : -9223372036854775808 ≤ v ∧ v ≤ 9223372036854775807) : Calls Try.prog 7 #[.int .i64 v] w (PostDC w (mkTP v) (mkTX v) (mkTC v)) := by
  have hmf : ∀ (fn : Fn) (first cap : Array Value) (w : World), (Instr.makeFunc fn first cap).run Try.prog w = .ok (.func fn first cap) w := fun _ _ _ _ => rfl
  have HT := Lib.hid (fun W => isTripleOrder_c v W)
  clear hv
  rcases hb : tripleB v with _ | _
  · rw [show mkTP v = 0 by unfold mkTP; rw [if_neg (by rw [hb]; simp)], show mkTX v = [] by unfold mkTX; rw [if_neg (by rw [hb]; simp)], show mkTC v = 2 by unfold mkTC; rw [if_neg (by rw [hb]; simp)]]
    simp only [hb] at HT
    have HT := Lib.hid HT.out
    clear hb
    have hzD := zeroD
    obtain ⟨wa, hwa⟩ : ∃ wa, wa = w.alloc (.cells #[.int .i64 0, .slice none 0 0] 24) := ⟨_, rfl⟩
    have hZa : RBox wa w.heap.size := by rw [hwa]; exact RBox.made w 24
    have hBa : Below w.heap.size w wa := by rw [hwa]; exact below_boxed w (.cells #[.int .i64 0, .slice none 0 0] 24)
    have hsa : w.heap.size + 1 ≤ wa.heap.size := by rw [hwa]; simp
    have HZa := Lib.hid hZa
    have HBa := Lib.hid hBa
    go_enter Try.func7, Try.ntmps7
    go_wp2_with fail
    rw [← hwa]
    clear hwa hZa hBa
    refine (HT.out _).mono ?_
    rintro e w' ⟨rfl, rfl⟩
    have rz := HZa.out
    have z0 := rz.c0
    have z1 := rz.c1
    have y0 := rz.f0
    have y1 := rz.f1
    clear rz
    go_wp2
    obtain ⟨r0, r1⟩ := HZa.out.read (.int .i64 0) (.slice none 0 0)
    refine bodyPost_ret (v := .tuple #[.agg #[.int .i64 0, .slice none 0 0], .int .i64 2]) (by simp [results, Try.results7, go_sem, r0, r1]) rfl ⟨⟨none, 0, 0, fun _ => (none, 0), rfl, rfl, OwnM.nil_ _ _ _⟩, by first | exact HBa.out | exact below_set2 HBa.out (by omega)⟩
  obtain ⟨k, rfl⟩ : ∃ k : Nat, v = (k : Int) := ⟨v.toNat, by unfold tripleB at hb; rw [decide_eq_true_eq] at hb; omega⟩
  rw [show mkTP (k : Int) = (k : Int) by unfold mkTP; rw [if_pos hb], show mkTX (k : Int) = sortLL (mtX k) by unfold mkTX; rw [if_pos hb]; rfl, show mkTC (k : Int) = 0 by unfold mkTC; rw [if_pos hb]]
  simp only [hb] at HT
  have HT := Lib.hid HT.out
  have hk9 := tripleB_nat hb
  have h128 := mtX_cnt hb
  have HSo := Lib.hid (fun (W : World) (A : Option Addr) (n c : Nat) (R : Spine) (hr : RdM W A c R (mtX k)) (hn : (mtX k).length = n) => by
    have := sorted_c W (k : Int) A n c R (mtX k) hr hn (by omega) (fun i hi => by rw [row_of_len (fun r h => mtX_rows h) i (by omega)]; omega)
    rwa [show mkP (k : Int) (mtX k) = (k : Int) from if_pos h128, show mkL (mtX k) = sortLL (mtX k) from if_pos h128, show mkC (mtX k) = 0 from if_pos h128] at this)
  obtain ⟨t, ht⟩ : ∃ t, t = k / 6 := ⟨_, rfl⟩
  have HMt := Lib.hid (show (k % 6 = 3 → mtX k = mxX (boF t (2 * t + 1)) (2 * t + 1) (2 * t + 1) ++ ldX (2 * t + 1) (2 * t + 1)) ∧ (k % 6 = 1 → mtX k = mxX (skF t) (2 * t) (2 * t) ++ skX (2 * t) t t) from by
    unfold mtX; rw [← ht]
    exact ⟨fun h => if_pos h, fun h => if_neg (by omega)⟩)
  generalize sortLL (mtX k) = lst at *
  generalize mtX k = xs at *
  have ht4 : t ≤ 4 := by omega
  have hq1 : (k : Int) / 6 = (t : Int) := by omega
  have hq2 : (k : Int).tdiv 6 = (t : Int) := by rw [Int.tdiv_eq_ediv_of_nonneg (by omega)]; exact hq1
  have hzD := zeroD
  obtain ⟨wa, hwa⟩ : ∃ wa, wa = w.alloc (.cells #[.int .i64 0, .slice none 0 0] 24) := ⟨_, rfl⟩
  have hZa : RBox wa w.heap.size := by rw [hwa]; exact RBox.made w 24
  have hBa : Below w.heap.size w wa := by rw [hwa]; exact below_boxed w (.cells #[.int .i64 0, .slice none 0 0] 24)
  have hsa : w.heap.size + 1 ≤ wa.heap.size := by rw [hwa]; simp
  have HZa := Lib.hid hZa
  have HBa := Lib.hid hBa
  clear hb h128
  rcases hk9 with ⟨hk1, hk2, hm | hm⟩
  · have hd1 : ((k : Int) % 6 == 3) = false := by simp; omega
    have hd2 : ((k : Int).tmod 6 == 3) = false := by rw [Int.tmod_eq_emod_of_nonneg (by omega)]; exact hd1
    obtain ⟨n, hn⟩ : ∃ n, n = 2 * t := ⟨_, rfl⟩
    have HX := Lib.hid (show xs = mxX (skF t) n n ++ skX n t t by rw [hn]; exact HMt.out.2 hm)
    have ht1 : 1 ≤ t := by omega
    have hn2 : n ≤ 27 := by omega
    have hn1 : 1 ≤ n := by omega
    have hw9 : IntKind.i64.wrap (2 * (t : Int)) = (n : Int) := by rw [show 2 * (t : Int) = (n : Int) by omega]; exact IntWalk.i64_in _ (by omega)
    have hnl : skF t = skF t := rfl
    have HSl := Lib.hid (show ∀ s, s < n → skF t s ≤ 27 from fun s hs => by have := skF_lt (t := t) (s := s) (by omega); omega)
    clear hm ht hn
    go_enter Try.func7, Try.ntmps7
    go_wp2_with fail
    rw [← hwa]
    clear hwa hZa hBa
    refine (HT.out _).mono ?_
    rintro e w' ⟨rfl, rfl⟩
    obtain ⟨wb, hwb⟩ : ∃ wb, wb = wa.alloc (.cells #[.int .i64 (t : Int)] 2) := ⟨_, rfl⟩
    have hc4 : wb.cell? ⟨wa.heap.size, 0, none⟩ = some (.int .i64 (t : Int)) := by rw [hwb]; simp [go_sem]
    have hsb := cell_size hc4
    have hbb : Below wa.heap.size wa wb := by rw [hwb]; exact (Below.refl _ _).alloc (Nat.le_refl _) _
    have HZb := Lib.hid (HZa.out.step (lo := wa.heap.size) (by omega) hbb)
    have HBb := Lib.hid (HBa.out.trans (hbb.mono HBa.out.size))
    have HC4 := Lib.hid hc4
    have HMx := Lib.hid (mixed_c wb n hn1 hn2 28 #[.pointer (some ⟨wa.heap.size, 0, none⟩)] (skF t) (enters_of Try.func28 (by kernel_rfl) rfl) HSl.out (fun W s hs hb => mt2_c W wa.heap.size t s ((hb.cell (p := ⟨wa.heap.size, 0, none⟩) hsb).trans hc4) ht4 (by omega)))
    have hcnt := mxX_cnt (skF t) n n
    have hL9 : 3 * n * n ≤ 3 * 27 * 27 := Nat.mul_le_mul (by omega) hn2
    clear hbb hc4
    go_wp2_with fail
    rw [← hwb]
    clear hwb
    refine (HMx.out).mono ?_
    rintro e w3 ⟨⟨A3, n3, c3, R3, rfl, hn3, ho3⟩, hb3⟩
    have hn39 : n3 ≤ 2187 := by omega
    have HZ3 := Lib.hid (HZb.out.step (lo := wb.heap.size) (by omega) hb3)
    have HB3 := Lib.hid (HBb.out.trans (hb3.mono HBb.out.size))
    have hs3 := hb3.size
    have HC3 := Lib.hid ((hb3.cell (p := ⟨wa.heap.size, 0, none⟩) hsb).trans HC4.out)
    have HL := Lib.hid (fun (L : List (List Int)) => show L ++ skX n t 0 = L by simp [skX])
    have HN3 := Lib.hid hn3
    have HO3 := Lib.hid ho3
    generalize mxX (skF t) n n = L at *
    clear hb3 ho3 hcnt hL9 hn3
    have hc3 := HC3.out
    go_wp2
    clear hc3
    go_loopw [5, 9, 10] (fun o v _ wr => ∃ (x s : Nat) (A' : Option Addr) (c' : Nat) (R' : Spine), x ≤ t ∧ v = .int .i64 x ∧ o = .slice A' s c' ∧ Hid ((L ++ skX n t x).length = s) ∧ s ≤ 2187 + 4 * x ∧ Hid (OwnM wr wb.heap.size A' c' R' (L ++ skX n t x)) ∧ Hid (Below wb.heap.size w3 wr)) (fun _ v _ _ => t - (intOf v).toNat)
    case atStart => exact ⟨0, n3, _, _, _, Nat.zero_le _, rfl, rfl, Lib.hid (by rw [HL.out]; exact HN3.out), by omega, Lib.hid (by rw [HL.out]; exact HO3.out), Lib.hid (Below.refl _ _)⟩
    case round =>
      obtain ⟨x, s, A', c', R', hx, rfl, rfl, HS, hs, HO, HB⟩ := hrel
      have hct := (HB.out.cell (p := ⟨wa.heap.size, 0, none⟩) hsb).trans HC3.out
      by_cases hxt : x < t
      · have hx0 : (0 : Int) ≤ (x : Int) := by omega
        have hx1 : (x : Int) < (t : Int) := by omega
        have HT := Lib.hid (show L ++ skX n t x ++ [trp (x : Int) ((x : Int) + (n : Int)) ((x : Int) + 2 * (n : Int))] = L ++ skX n t x ++ [ldB n x] ++ skI n t x 0 by
          rw [show ldB n x = trp (x : Int) ((x : Int) + (n : Int)) ((x : Int) + 2 * (n : Int)) by unfold ldB; rw [Int.natCast_mul]; rfl, show skI n t x 0 = [] from rfl, List.append_nil])
        have hszw : wb.heap.size ≤ wr.heap.size := by have := HB.out.size; omega
        have HBr := Lib.hid ((Below.refl wb.heap.size wr))
        go_wp2_with fail
        refine (triple_c wr _ _ _).mono ?_
        rintro e w4 ⟨⟨A4, n4, c4, rfl, hn4, ho4⟩, hb4⟩
        have hz4 := hb4.size
        have HN4 := Lib.hid hn4
        have HX4 := Lib.hid ((ho4.lower (lo' := wb.heap.size) hszw).alloc (.cells #[.slice A4 n4 c4] 32))
        have HE4 := Lib.hid ((HO.out.below hb4).alloc (.cells #[.slice A4 n4 c4] 32))
        have HAp4 := Lib.hid (later_apart HO.out ho4)
        have HB4 := Lib.hid ((hb4.mono hszw).alloc (by omega) (.cells #[.slice A4 n4 c4] 32))
        clear hn4 ho4 hb4
        go_wp2_with (at_builtin
                     refine wpM_append rfl _ _ rfl wb.heap.size _ _ _ R' (L ++ skX n t x) A4 n4 c4 (trp (x : Int) ((x : Int) + (n : Int)) ((x : Int) + 2 * (n : Int))) w4.heap.size rfl rfl (HS.out) HN4.out HE4.out HX4.out HAp4.out (World.cell?_alloc_at _ _ _ _ rfl) (by omega) (by simp; omega) ?_
                     intro A5 c5 R5 w5 ho5 hg5 ha5)
        have HB5 := Lib.hid (HB4.out.trans (below_blkM HE4.out hg5 (Nat.le_refl _) (by simp; omega)))
        have HO5 := Lib.hid ho5
        clear ho5 hg5 ha5
        have HB6 := Lib.hid (HB.out.trans HB5.out)
        have HO6 := Lib.hid (show OwnM w5 wb.heap.size A5 c5 R5 (L ++ skX n t x ++ [ldB n x] ++ skI n t x 0) from by rw [← HT.out]; exact HO5.out)
        have HS6 := Lib.hid (show (L ++ skX n t x ++ [ldB n x] ++ skI n t x 0).length = s + 1 from by rw [← HT.out, List.length_append, HS.out]; rfl)
        have HNext := Lib.hid (show L ++ skX n t x ++ [ldB n x] ++ skI n t x 3 = L ++ skX n t (x + 1) by rw [skX_succ]; simp only [List.append_assoc])
        go_wp2
        clear hct
        generalize L ++ skX n t x ++ [ldB n x] = L2 at *
        go_loopw [5, 10] (fun o v wr => ∃ (i s2 : Nat) (A' : Option Addr) (c' : Nat) (R' : Spine), i ≤ 3 ∧ v = .int .i64 i ∧ o = .slice A' s2 c' ∧ Hid ((L2 ++ skI n t x i).length = s2) ∧ s2 ≤ s + 1 + i ∧ Hid (OwnM wr wb.heap.size A' c' R' (L2 ++ skI n t x i)) ∧ Hid (Below wb.heap.size w3 wr)) (fun _ v _ => 3 - (intOf v).toNat)
        case atStart => exact ⟨0, s + 1, _, _, _, Nat.zero_le _, rfl, rfl, HS6, by omega, HO6, HB6⟩
        case round =>
          obtain ⟨i, s2, A2, c2, R2, hi, rfl, rfl, HS2, hs2, HO2, HB2⟩ := hrel
          have hct := (HB2.out.cell (p := ⟨wa.heap.size, 0, none⟩) hsb).trans HC3.out
          by_cases hi3 : i < 3
          · obtain ⟨u, hu⟩ : ∃ u, u = n * i := ⟨_, rfl⟩
            obtain ⟨j, hj⟩ : ∃ j, j = (i + 1) % 3 := ⟨_, rfl⟩
            obtain ⟨u2, hu2⟩ : ∃ u2, u2 = n * j := ⟨_, rfl⟩
            have hul : u ≤ 81 := by rw [hu]; exact Nat.le_trans (Nat.mul_le_mul hn2 (show i ≤ 3 by omega)) (by omega)
            have hul2 : u2 ≤ 81 := by rw [hu2]; exact Nat.le_trans (Nat.mul_le_mul hn2 (show j ≤ 3 by omega)) (by omega)
            have hB : skB n t x i = trp (3 * (n : Int)) ((x : Int) + (t : Int) + (u : Int)) ((x : Int) + (u2 : Int)) := by unfold skB; rw [← hu, ← hj, ← hu2, Int.natCast_mul]; rfl
            have HT := Lib.hid (show L2 ++ skI n t x i ++ [trp (3 * (n : Int)) ((x : Int) + (t : Int) + (u : Int)) ((x : Int) + (u2 : Int))] = L2 ++ skI n t x (i + 1) by rw [skI_succ, hB, List.append_assoc])
            have hw1 : IntKind.i64.wrap ((n : Int) * (i : Int)) = (u : Int) := by rw [← Int.natCast_mul, ← hu]; exact IntWalk.i64_in _ (by omega)
            have hw2 : IntKind.i64.wrap ((n : Int) * (j : Int)) = (u2 : Int) := by rw [← Int.natCast_mul, ← hu2]; exact IntWalk.i64_in _ (by omega)
            have hr3 : ((i : Int) + 1).tmod 3 = (j : Int) := by rw [hj, Int.natCast_emod, Int.natCast_add]; exact Int.tmod_eq_emod_of_nonneg (by omega)
            have hr4 : ((i : Int) + 1) % 3 = (j : Int) := by omega
            have hj3 : j ≤ 2 := by omega
            clear hu hj hu2 hB
            have hszw : wb.heap.size ≤ wr.heap.size := by have := HB2.out.size; omega
            go_wp2_with fail
            refine (triple_c wr _ _ _).mono ?_
            rintro e w4 ⟨⟨A4, n4, c4, rfl, hn4, ho4⟩, hb4⟩
            have hz4 := hb4.size
            have HN4 := Lib.hid hn4
            have HX4 := Lib.hid ((ho4.lower (lo' := wb.heap.size) hszw).alloc (.cells #[.slice A4 n4 c4] 32))
            have HE4 := Lib.hid ((HO2.out.below hb4).alloc (.cells #[.slice A4 n4 c4] 32))
            have HAp4 := Lib.hid (later_apart HO2.out ho4)
            have HB4 := Lib.hid ((hb4.mono hszw).alloc (by omega) (.cells #[.slice A4 n4 c4] 32))
            clear hn4 ho4 hb4
            go_wp2_with (at_builtin
                         refine wpM_append rfl _ _ rfl wb.heap.size _ _ _ R2 (L2 ++ skI n t x i) A4 n4 c4 (trp (3 * (n : Int)) ((x : Int) + (t : Int) + (u : Int)) ((x : Int) + (u2 : Int))) w4.heap.size rfl rfl (HS2.out) HN4.out HE4.out HX4.out HAp4.out (World.cell?_alloc_at _ _ _ _ rfl) (by omega) (by simp; omega) ?_
                         intro A5 c5 R5 w5 ho5 hg5 ha5)
            have HB5 := Lib.hid (HB4.out.trans (below_blkM HE4.out hg5 (Nat.le_refl _) (by simp; omega)))
            have HO5 := Lib.hid ho5
            clear ho5 hg5 ha5
            have HB6 := Lib.hid (HB2.out.trans HB5.out)
            have HO6 := Lib.hid (show OwnM w5 wb.heap.size A5 c5 R5 (L2 ++ skI n t x (i + 1)) from by rw [← HT.out]; exact HO5.out)
            have HS6 := Lib.hid (show (L2 ++ skI n t x (i + 1)).length = s2 + 1 from by rw [← HT.out, List.length_append, HS2.out]; rfl)
            go_wp2
            go_roundw
            case rel => exact ⟨i + 1, s2 + 1, A5, c5, R5, by omega, by go_num, rfl, HS6, by omega, HO6, HB6⟩
            case measure => simp [intOf]; omega
          · obtain rfl : i = 3 := by omega
            have HO6 := Lib.hid (show OwnM wr wb.heap.size A2 c2 R2 (L ++ skX n t (x + 1)) from by rw [← HNext.out]; exact HO2.out)
            have HS6 := Lib.hid (show (L ++ skX n t (x + 1)).length = s2 from by rw [← HNext.out]; exact HS2.out)
            go_wp2
            go_roundw
            case rel => exact ⟨x + 1, s2, A2, c2, R2, by omega, by go_num, rfl, HS6, by omega, HO6, HB2⟩
            case measure => simp [intOf]; omega
      · obtain rfl : x = t := by omega
        have HSk := Lib.hid (HSo.out wr A' s c' R' (by rw [(HX.out)]; exact HO.out.rd) (by rw [(HX.out)]; exact HS.out))
        have hsr := HB.out.size
        have HZr := Lib.hid (HZ3.out.step (lo := wb.heap.size) (by omega) HB.out)
        have HBr := Lib.hid (HB3.out.trans (HB.out.mono (by omega)))
        go_wp2_with fail
        refine (HSk.out).mono ?_
        rintro e w9 ⟨⟨A9, n9, c9, R9, rfl, hn9, ho9⟩, hb9⟩
        have HZ9 := Lib.hid (HZr.out.step (lo := wr.heap.size) (by omega) hb9)
        have HB9 := Lib.hid (HBr.out.trans (hb9.mono HBr.out.size))
        have HO9 := Lib.hid (show OwnM w9 (w.heap.size + 1) A9 c9 R9 lst from ho9.lower (by omega))
        have HN9 := Lib.hid hn9
        clear hb9 ho9 hn9
        have rz := HZ9.out
        have z0 := rz.c0
        have z1 := rz.c1
        have y0 := rz.f0
        have y1 := rz.f1
        clear rz
        go_wp2
        obtain ⟨r0, r1⟩ := HZ9.out.read (.int .i64 (k : Int)) (.slice A9 n9 c9)
        refine bodyPost_ret (v := .tuple #[.agg #[.int .i64 (k : Int), .slice A9 n9 c9], .int .i64 0]) (by simp [results, Try.results7, go_sem, r0, r1]) rfl ⟨⟨A9, n9, c9, R9, rfl, HN9.out, own_set2 HO9.out (by omega) _ _⟩, below_set2 HB9.out (by omega)⟩
  · have hd1 : ((k : Int) % 6 == 3) = true := by simp; omega
    have hd2 : ((k : Int).tmod 6 == 3) = true := by rw [Int.tmod_eq_emod_of_nonneg (by omega)]; exact hd1
    obtain ⟨n, hn⟩ : ∃ n, n = 2 * t + 1 := ⟨_, rfl⟩
    have HX := Lib.hid (show xs = mxX (boF t n) n n ++ ldX n n by rw [hn]; exact HMt.out.1 hm)
    have hn2 : n ≤ 27 := by omega
    have hn1 : 1 ≤ n := by omega
    have hw0 : IntKind.i64.wrap (2 * (t : Int)) = 2 * (t : Int) := IntWalk.i64_in _ (by omega)
    have hw9 : IntKind.i64.wrap (2 * (t : Int) + 1) = (n : Int) := by rw [show 2 * (t : Int) + 1 = (n : Int) by omega]; exact IntWalk.i64_in _ (by omega)
    have HSl := Lib.hid (show ∀ s, s < n → boF t n s ≤ 27 from fun s hs => by have := boF_lt (t := t) (s := s) (show 0 < n by omega); omega)
    clear hm ht hn
    go_enter Try.func7, Try.ntmps7
    go_wp2_with fail
    rw [← hwa]
    clear hwa hZa hBa
    refine (HT.out _).mono ?_
    rintro e w' ⟨rfl, rfl⟩
    obtain ⟨wz, hwz⟩ : ∃ wz, wz = wa.alloc (.cells #[.int .i64 (t : Int)] 2) := ⟨_, rfl⟩
    obtain ⟨wb, hwb⟩ : ∃ wb, wb = (wa.alloc (.cells #[.int .i64 (t : Int)] 2)).alloc (.cells #[.int .i64 (n : Int)] 2) := ⟨_, rfl⟩
    have hc4 : wb.cell? ⟨wa.heap.size, 0, none⟩ = some (.int .i64 (t : Int)) := by rw [hwb]; simp [go_sem]
    have hc6 : wb.cell? ⟨wa.heap.size + 1, 0, none⟩ = some (.int .i64 (n : Int)) := by rw [hwb]; simp [go_sem]
    have hsb := cell_size hc6
    have hsb0 := cell_size hc4
    have hbb : Below wa.heap.size wa wb := by rw [hwb]; exact ((Below.refl _ _).alloc (Nat.le_refl _) _).alloc (by simp) _
    have HZb := Lib.hid (HZa.out.step (lo := wa.heap.size) (by omega) hbb)
    have HBb := Lib.hid (HBa.out.trans (hbb.mono HBa.out.size))
    have HC6 := Lib.hid hc6
    have HMx := Lib.hid (mixed_c wb n hn1 hn2 25 #[.pointer (some ⟨wa.heap.size, 0, none⟩), .pointer (some ⟨wa.heap.size + 1, 0, none⟩)] (boF t n) (enters_of Try.func25 (by kernel_rfl) rfl) HSl.out (fun W s hs hb => mt1_c W wa.heap.size (wa.heap.size + 1) t n s ((hb.cell (p := ⟨wa.heap.size, 0, none⟩) hsb0).trans hc4) ((hb.cell (p := ⟨wa.heap.size + 1, 0, none⟩) hsb).trans hc6) ht4 hn1 hn2 hs))
    have hcnt := mxX_cnt (boF t n) n n
    have hL9 : 3 * n * n ≤ 3 * 27 * 27 := Nat.mul_le_mul (by omega) hn2
    clear hbb hc4 hc6 hsb0 hwz
    go_wp2_with fail
    rw [← hwb]
    clear hwb
    refine (HMx.out).mono ?_
    rintro e w3 ⟨⟨A3, n3, c3, R3, rfl, hn3, ho3⟩, hb3⟩
    have hn39 : n3 ≤ 2187 := by omega
    have HZ3 := Lib.hid (HZb.out.step (lo := wb.heap.size) (by omega) hb3)
    have HB3 := Lib.hid (HBb.out.trans (hb3.mono HBb.out.size))
    have hs3 := hb3.size
    have HC3 := Lib.hid ((hb3.cell (p := ⟨wa.heap.size + 1, 0, none⟩) hsb).trans HC6.out)
    have HL := Lib.hid (fun (L : List (List Int)) => show L ++ ldX n 0 = L by simp [ldX])
    have HN3 := Lib.hid hn3
    have HO3 := Lib.hid ho3
    generalize mxX (boF t n) n n = L at *
    clear hb3 ho3 hcnt hL9 hn3
    go_wp2
    go_loopw [5, 7] (fun o v wr => ∃ (x s : Nat) (A' : Option Addr) (c' : Nat) (R' : Spine), x ≤ n ∧ v = .int .i64 x ∧ o = .slice A' s c' ∧ Hid ((L ++ ldX n x).length = s) ∧ s ≤ 2187 + x ∧ Hid (OwnM wr wb.heap.size A' c' R' (L ++ ldX n x)) ∧ Hid (Below wb.heap.size w3 wr)) (fun _ v _ => n - (intOf v).toNat)
    case atStart => exact ⟨0, n3, _, _, _, Nat.zero_le _, rfl, rfl, Lib.hid (by rw [HL.out]; exact HN3.out), by omega, Lib.hid (by rw [HL.out]; exact HO3.out), Lib.hid (Below.refl _ _)⟩
    case round =>
      obtain ⟨x, s, A', c', R', hx, rfl, rfl, HS, hs, HO, HB⟩ := hrel
      have hct := (HB.out.cell (p := ⟨wa.heap.size + 1, 0, none⟩) hsb).trans HC3.out
      by_cases hxt : x < n
      · have hx0 : (0 : Int) ≤ (x : Int) := by omega
        have hx1 : (x : Int) < (n : Int) := by omega
        have HT := Lib.hid (show L ++ ldX n x ++ [trp (x : Int) ((x : Int) + (n : Int)) ((x : Int) + 2 * (n : Int))] = L ++ ldX n (x + 1) by
          rw [ldX_succ, show ldB n x = trp (x : Int) ((x : Int) + (n : Int)) ((x : Int) + 2 * (n : Int)) by unfold ldB; rw [Int.natCast_mul]; rfl, List.append_assoc])
        have hszw : wb.heap.size ≤ wr.heap.size := by have := HB.out.size; omega
        go_wp2_with fail
        refine (triple_c wr _ _ _).mono ?_
        rintro e w4 ⟨⟨A4, n4, c4, rfl, hn4, ho4⟩, hb4⟩
        have hz4 := hb4.size
        have HN4 := Lib.hid hn4
        have HX4 := Lib.hid ((ho4.lower (lo' := wb.heap.size) hszw).alloc (.cells #[.slice A4 n4 c4] 32))
        have HE4 := Lib.hid ((HO.out.below hb4).alloc (.cells #[.slice A4 n4 c4] 32))
        have HAp4 := Lib.hid (later_apart HO.out ho4)
        have HB4 := Lib.hid ((hb4.mono hszw).alloc (by omega) (.cells #[.slice A4 n4 c4] 32))
        clear hn4 ho4 hb4
        go_wp2_with (at_builtin
                     refine wpM_append rfl _ _ rfl wb.heap.size _ _ _ R' (L ++ ldX n x) A4 n4 c4 (trp (x : Int) ((x : Int) + (n : Int)) ((x : Int) + 2 * (n : Int))) w4.heap.size rfl rfl (HS.out) HN4.out HE4.out HX4.out HAp4.out (World.cell?_alloc_at _ _ _ _ rfl) (by omega) (by simp; omega) ?_
                     intro A5 c5 R5 w5 ho5 hg5 ha5)
        have HB5 := Lib.hid (HB4.out.trans (below_blkM HE4.out hg5 (Nat.le_refl _) (by simp; omega)))
        have HO5 := Lib.hid ho5
        clear ho5 hg5 ha5
        have HB6 := Lib.hid (HB.out.trans HB5.out)
        have HO6 := Lib.hid (show OwnM w5 wb.heap.size A5 c5 R5 (L ++ ldX n (x + 1)) from by rw [← HT.out]; exact HO5.out)
        have HS6 := Lib.hid (show (L ++ ldX n (x + 1)).length = s + 1 from by rw [← HT.out, List.length_append, HS.out]; rfl)
        go_wp2
        go_roundw
        case rel => exact ⟨x + 1, s + 1, A5, c5, R5, by omega, by go_num, rfl, HS6, by omega, HO6, HB6⟩
        case measure => simp [intOf]; omega
      · obtain rfl : x = n := by omega
        have HSk := Lib.hid (HSo.out wr A' s c' R' (by rw [(HX.out)]; exact HO.out.rd) (by rw [(HX.out)]; exact HS.out))
        have hsr := HB.out.size
        have HZr := Lib.hid (HZ3.out.step (lo := wb.heap.size) (by omega) HB.out)
        have HBr := Lib.hid (HB3.out.trans (HB.out.mono (by omega)))
        go_wp2_with fail
        refine (HSk.out).mono ?_
        rintro e w9 ⟨⟨A9, n9, c9, R9, rfl, hn9, ho9⟩, hb9⟩
        have HZ9 := Lib.hid (HZr.out.step (lo := wr.heap.size) (by omega) hb9)
        have HB9 := Lib.hid (HBr.out.trans (hb9.mono HBr.out.size))
        have HO9 := Lib.hid (show OwnM w9 (w.heap.size + 1) A9 c9 R9 lst from ho9.lower (by omega))
        have HN9 := Lib.hid hn9
        clear hb9 ho9 hn9
        have rz := HZ9.out
        have z0 := rz.c0
        have z1 := rz.c1
        have y0 := rz.f0
        have y1 := rz.f1
        clear rz
        go_wp2
        obtain ⟨r0, r1⟩ := HZ9.out.read (.int .i64 (k : Int)) (.slice A9 n9 c9)
        refine bodyPost_ret (v := .tuple #[.agg #[.int .i64 (k : Int), .slice A9 n9 c9], .int .i64 0]) (by simp [results, Try.results7, go_sem, r0, r1]) rfl ⟨⟨A9, n9, c9, R9, rfl, HN9.out, own_set2 HO9.out (by omega) _ _⟩, below_set2 HB9.out (by omega)⟩
end Go.Proofs.Ytambaonoeppblaa
