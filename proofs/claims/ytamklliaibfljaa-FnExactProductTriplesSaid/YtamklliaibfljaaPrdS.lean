/-
  ProductTriples of the reference. Conditions: those of the theorem.
-/
import Derived.Test.YtamklliaibfljaaPrdQ
namespace Go.Proofs.Ytamklliaibfljaa
open Go.RowKit
set_option linter.unusedVariables false
set_option linter.unusedSimpArgs false

set_option maxRecDepth 100000 in
set_option maxHeartbeats 32000000 in
theorem specProductTriples_c (w : World) (p : Int) (hp : -9223372036854775808 ≤ p ∧ p ≤ 9223372036854775807) (A : Option Addr) (n c : Nat) (R : Spine) (xss : List (List Int)) (hr : RdM w A c R xss) (hn : xss.length = n) (hw : WfM xss) (hz : (n : Int) + (tot xss : Nat) ≤ 1048576)
    (q : Int) (hq : -9223372036854775808 ≤ q ∧ q ≤ 9223372036854775807) (B : Option Addr) (m d : Nat) (S : Spine) (yss : List (List Int)) (hy : RdM w B d S yss) (hm : yss.length = m) (hwy : WfM yss) (hzy : (m : Int) + (tot yss : Nat) ≤ 1048576) :
    Calls Try.prog 21 #[.agg #[.int .i64 p, .slice A n c], .agg #[.int .i64 q, .slice B m d]] w (PostDC w (ptRP p xss q yss) (ptRX p xss q yss) (ptRC p xss q yss)) := by
  clear hw hz hwy hzy hp hq
  have hzD := zeroD
  obtain ⟨wa, hwa⟩ : ∃ wa, wa = ((w.alloc (.cells #[.int .i64 p, .slice A n c] 26)).alloc (.cells #[.int .i64 q, .slice B m d] 26)).alloc (.cells #[.int .i64 0, .slice none 0 0] 26) := ⟨_, rfl⟩
  have hXa : BoxD wa w.heap.size p A n c := by rw [hwa]; exact ((BoxD.made _ _ _ _ _ _).below (below_boxed _ _)).below (below_boxed _ _)
  have hYa : BoxD wa (w.heap.size + 1) q B m d := by
    rw [hwa]
    have := (BoxD.made (w.alloc (.cells #[.int .i64 p, .slice A n c] 26)) q B m d 26).below (below_boxed _ (.cells #[.int .i64 0, .slice none 0 0] 26))
    simpa using this
  have hZa : RBox wa (w.heap.size + 2) := by
    rw [hwa]
    have := RBox.made ((w.alloc (.cells #[.int .i64 p, .slice A n c] 26)).alloc (.cells #[.int .i64 q, .slice B m d] 26)) 26
    simpa using this
  have hBa : Below w.heap.size w wa := by rw [hwa]; exact ((below_boxed _ _).alloc (by simp) _).alloc (by simp; omega) _
  have hsa : w.heap.size + 3 ≤ wa.heap.size := by rw [hwa]; simp
  have HXa := Lib.hid hXa
  have HYa := Lib.hid hYa
  have HZa := Lib.hid hZa
  have HBa := Lib.hid hBa
  have hO := l11Ok_c wa w.heap.size p A n c R xss hXa (hr.below hBa) hn
  rw [hwa] at hO
  have HPe := Lib.hid (fun (W : World) (hX : BoxD W (w.heap.size + 1) q B m d) (hb : Below w.heap.size w W) => l11Ok_c W (w.heap.size + 1) q B m d S yss hX (hy.below hb) hm)
  rcases hd : tripB p xss with _ | _
  · have h1 : ¬ (tripB p xss = true ∧ tripB q yss = true) := by rw [hd]; simp
    rw [show ptRP p xss q yss = 0 from if_neg h1, show ptRX p xss q yss = [] from if_neg h1, show ptRC p xss q yss = 1 from if_neg h1]
    rw [hd] at hO
    have HO := Lib.hid hO
    have HWa := Lib.hid hwa
    clear hO hwa hXa hYa hZa hBa hr hn hd hy hm h1
    go_enter Try.func21, Try.ntmps21
    go_wp2_with fail
    refine (HO.out).mono ?_
    rintro e w2 ⟨rfl, hb2⟩
    rw [← HWa.out] at hb2
    have HX2 := Lib.hid (HXa.out.below hb2)
    have HY2 := Lib.hid (HYa.out.below hb2)
    have HZ2 := Lib.hid (HZa.out.step (lo := wa.heap.size) (by omega) hb2)
    have HB2 := Lib.hid (HBa.out.trans (hb2.mono HBa.out.size))
    have hs2 : w.heap.size + 3 ≤ w2.heap.size := by have := hb2.size; omega
    clear hb2
    have rz := HZ2.out
    have z0 := rz.c0
    have z1 := rz.c1
    have y0 := rz.f0
    have y1 := rz.f1
    clear rz
    go_wp2
    obtain ⟨r0, r1⟩ := HZ2.out.read (.int .i64 0) (.slice none 0 0)
    refine bodyPost_ret (v := .tuple #[.agg #[.int .i64 0, .slice none 0 0], .int .i64 1]) (by simp [results, Try.results21, go_sem, r0, r1]) rfl ⟨⟨none, 0, 0, fun _ => (none, 0), rfl, rfl, OwnM.nil_ _ _ _⟩, below_set2 HB2.out (by omega)⟩
  rw [hd] at hO
  have HO := Lib.hid hO
  have HWa := Lib.hid hwa
  rcases hpe : tripB q yss with _ | _
  · have h1 : ¬ (tripB p xss = true ∧ tripB q yss = true) := by rw [hpe]; simp
    rw [show ptRP p xss q yss = 0 from if_neg h1, show ptRX p xss q yss = [] from if_neg h1, show ptRC p xss q yss = 1 from if_neg h1]
    rw [hpe] at HPe
    clear hO hwa hXa hYa hZa hBa hr hn hd hy hm h1 hpe
    go_enter Try.func21, Try.ntmps21
    go_wp2_with fail
    refine (HO.out).mono ?_
    rintro e w2 ⟨rfl, hb2⟩
    rw [← HWa.out] at hb2
    have HX2 := Lib.hid (HXa.out.below hb2)
    have HY2 := Lib.hid (HYa.out.below hb2)
    have HZ2 := Lib.hid (HZa.out.step (lo := wa.heap.size) (by omega) hb2)
    have HB2 := Lib.hid (HBa.out.trans (hb2.mono HBa.out.size))
    have hs2 : w.heap.size + 3 ≤ w2.heap.size := by have := hb2.size; omega
    clear hb2
    have hd0 := HY2.out.c0
    have hd1 := HY2.out.c1
    have HPw := Lib.hid (HPe.out w2 HY2.out HB2.out)
    go_wp2_with fail
    refine (HPw.out).mono ?_
    rintro e w4 ⟨rfl, hb4⟩
    have HX4 := Lib.hid (HX2.out.below hb4)
    have HY4 := Lib.hid (HY2.out.below hb4)
    have HZ4 := Lib.hid (HZ2.out.step (lo := w2.heap.size) (by omega) hb4)
    have HB4 := Lib.hid (HB2.out.trans (hb4.mono HB2.out.size))
    have hs4 : w.heap.size + 3 ≤ w4.heap.size := by have := hb4.size; omega
    clear hb4 hd0 hd1
    have hc0 := HX4.out.c0
    have hc1 := HX4.out.c1
    have hd0 := HY4.out.c0
    have hd1 := HY4.out.c1
    clear hc0 hc1 hd0 hd1
    have rz := HZ4.out
    have z0 := rz.c0
    have z1 := rz.c1
    have y0 := rz.f0
    have y1 := rz.f1
    clear rz
    go_wp2
    obtain ⟨r0, r1⟩ := HZ4.out.read (.int .i64 0) (.slice none 0 0)
    refine bodyPost_ret (v := .tuple #[.agg #[.int .i64 0, .slice none 0 0], .int .i64 1]) (by simp [results, Try.results21, go_sem, r0, r1]) rfl ⟨⟨none, 0, 0, fun _ => (none, 0), rfl, rfl, OwnM.nil_ _ _ _⟩, below_set2 HB4.out (by omega)⟩
  rw [hpe] at HPe
  have h0 : tripB p xss = true ∧ tripB q yss = true := ⟨hd, hpe⟩
  obtain ⟨P, rfl⟩ : ∃ P : Nat, p = (P : Int) := ⟨p.toNat, by have := (ptrip_dsg hd).1.1.1; omega⟩
  obtain ⟨N, rfl⟩ : ∃ N : Nat, q = (N : Int) := ⟨q.toNat, by have := (ptrip_dsg hpe).1.1.1; omega⟩
  have hsx := ptrip_sys hd
  have hsy := ptrip_sys hpe
  have hP3 := tripB_three hd
  have hN3 := tripB_three hpe
  have hP32 : P ≤ 32 := by have := hsx.1.1.2; omega
  have hN32 : N ≤ 32 := by have := hsy.1.1.2; omega
  have hn128 : n ≤ 128 := by have := hsx.1.2.1; omega
  have hm128 : m ≤ 128 := by have := hsy.1.2.1; omega
  obtain ⟨M, hM⟩ : ∃ M, M = P * N := ⟨_, rfl⟩
  have hM2 : M ≤ 1024 := by rw [hM]; exact Nat.mul_le_mul hP32 hN32
  have hMi : (P : Int) * (N : Int) = (M : Int) := by rw [hM, Int.natCast_mul]
  have hwM : IntKind.i64.wrap ((P : Int) * (N : Int)) = (M : Int) := by rw [hMi]; exact IntWalk.i64_in _ (by omega)
  have hRP : ptRP (P : Int) xss (N : Int) yss = if (M : Int) ≤ 32 then (M : Int) else 0 := by unfold ptRP; rw [if_pos h0, hMi]
  have hRX : ptRX (P : Int) xss (N : Int) yss = if (M : Int) ≤ 32 then sortLL (ptL P N xss yss) else [] := by unfold ptRX; rw [if_pos h0, hMi]; rfl
  have hRC : ptRC (P : Int) xss (N : Int) yss = if (M : Int) ≤ 32 then 0 else 5 := by unfold ptRC; rw [if_pos h0, hMi]
  rw [hRP, hRX, hRC]
  by_cases h32 : M ≤ 32
  rotate_left
  · have h32' : ¬ (M : Int) ≤ 32 := by omega
    have h32d : (32 : Int) < (M : Int) := by omega
    rw [if_neg h32', if_neg h32', if_neg h32']
    clear hO hwa hXa hYa hZa hBa hr hn hd hy hm h0 hpe hsx hsy hM hMi hRP hRX hRC
    go_enter Try.func21, Try.ntmps21
    go_wp2_with fail
    refine (HO.out).mono ?_
    rintro e w2 ⟨rfl, hb2⟩
    rw [← HWa.out] at hb2
    have HX2 := Lib.hid (HXa.out.below hb2)
    have HY2 := Lib.hid (HYa.out.below hb2)
    have HZ2 := Lib.hid (HZa.out.step (lo := wa.heap.size) (by omega) hb2)
    have HB2 := Lib.hid (HBa.out.trans (hb2.mono HBa.out.size))
    have hs2 : w.heap.size + 3 ≤ w2.heap.size := by have := hb2.size; omega
    clear hb2
    have hd0 := HY2.out.c0
    have hd1 := HY2.out.c1
    have HPw := Lib.hid (HPe.out w2 HY2.out HB2.out)
    go_wp2_with fail
    refine (HPw.out).mono ?_
    rintro e w4 ⟨rfl, hb4⟩
    have HX4 := Lib.hid (HX2.out.below hb4)
    have HY4 := Lib.hid (HY2.out.below hb4)
    have HZ4 := Lib.hid (HZ2.out.step (lo := w2.heap.size) (by omega) hb4)
    have HB4 := Lib.hid (HB2.out.trans (hb4.mono HB2.out.size))
    have hs4 : w.heap.size + 3 ≤ w4.heap.size := by have := hb4.size; omega
    clear hb4 hd0 hd1
    have hc0 := HX4.out.c0
    have hc1 := HX4.out.c1
    have hd0 := HY4.out.c0
    have hd1 := HY4.out.c1
    have rz := HZ4.out
    have z0 := rz.c0
    have z1 := rz.c1
    have y0 := rz.f0
    have y1 := rz.f1
    clear rz
    go_wp2
    obtain ⟨r0, r1⟩ := HZ4.out.read (.int .i64 0) (.slice none 0 0)
    refine bodyPost_ret (v := .tuple #[.agg #[.int .i64 0, .slice none 0 0], .int .i64 5]) (by simp [results, Try.results21, go_sem, r0, r1]) rfl ⟨⟨none, 0, 0, fun _ => (none, 0), rfl, rfl, OwnM.nil_ _ _ _⟩, below_set2 HB4.out (by omega)⟩
  have h32' : (M : Int) ≤ 32 := by omega
  have h32d : ¬ (32 : Int) < (M : Int) := by omega
  rw [if_pos h32', if_pos h32', if_pos h32']
  have hsm := pd_small hsx.2 hsy.2 hP3 hN3 (by rw [← hM]; exact h32)
  have hll := ptL_len hsx.2 hsy.2 hP3 hN3 (by rw [← hM]; exact h32)
  have HR := Lib.hid hr
  have HRy := Lib.hid hy
  have HN := Lib.hid hn
  have HM := Lib.hid hm
  have HTx := Lib.hid hsx.2
  have HTy := Lib.hid hsy.2
  have HHd := Lib.hid h32d
  have hpm := ptM_perm P N xss yss
  have hll2 : (ptM P N xss yss).length ≤ 128 := by rw [hpm.length_eq]; exact hll
  have HSo := Lib.hid (fun (W : World) (A7 : Option Addr) (s c7 : Nat) (R7 : Spine) (hr : RdM W A7 c7 R7 (ptM P N xss yss)) (hcap : NilCap R7 s) (hs : (ptM P N xss yss).length = s) => (show Calls Try.prog 26 #[.slice A7 s c7] W (PostM W (sortLL (ptL P N xss yss))) from by
    have := l10Sort_c W A7 s c7 R7 (ptM P N xss yss) hr hs hcap (by omega) (fun k hk => by
      have := ptM_rows (m := P) (n := N) (xs := xss) (ys := yss) (r := row (ptM P N xss yss) k) (by rw [row_eq (by omega)]; exact List.getElem_mem _)
      omega)
    rwa [sortLL_permA hpm] at this))
  have HLd := Lib.hid (show ptM P N xss yss = pdX N xss yss n ++ pdDs N P yss m from by unfold ptM; rw [hn, hm])
  have HUn := Lib.hid (fun W r (hr : r < 6) => l04Unrank3_c W r hr)
  generalize sortLL (ptL P N xss yss) = lst at *
  obtain ⟨K, hKd⟩ : ∃ K, K = M * (M - 1) := ⟨_, rfl⟩
  have hK6 : K ≤ 768 := by rw [hKd, hM]; exact hsm.2
  have hM1 : 1 ≤ M := by rw [hM]; exact Nat.mul_pos (show 0 < P by omega) (show 0 < N by omega)
  have hwv1 : IntKind.i64.wrap ((M : Int) - 1) = ((M - 1 : Nat) : Int) := by rw [show (M : Int) - 1 = ((M - 1 : Nat) : Int) by omega]; exact IntWalk.i64_in _ (by omega)
  have hwv2 : IntKind.i64.wrap ((M : Int) * ((M - 1 : Nat) : Int)) = (K : Int) := by rw [← Int.natCast_mul, ← hKd]; exact IntWalk.i64_in _ (by omega)
  obtain ⟨Q, hQ⟩ : ∃ Q, Q = K / 6 := ⟨_, rfl⟩
  have hwv3 : (K : Int).tdiv 6 = (Q : Int) := by rw [hQ, Int.natCast_ediv]; exact Int.tdiv_eq_ediv_of_nonneg (by omega)
  have hwv4 : (K : Int) / 6 = (Q : Int) := by rw [hQ, Int.natCast_ediv]; rfl
  have hwv5 : ¬ (128 : Int) < (Q : Int) := by omega
  have hwv6 : IntKind.i64.wrap (Q : Int) = (Q : Int) := IntWalk.i64_in _ (by omega)
  clear hQ
  clear hO hwa hXa hYa hZa hBa hr hn hd hy hm h0 hpe hsx hsy hM hMi hRP hRX hRC hsm hll hll2 hpm hKd
  go_enter Try.func21, Try.ntmps21
  go_wp2_with fail
  refine (HO.out).mono ?_
  rintro e w2 ⟨rfl, hb2⟩
  rw [← HWa.out] at hb2
  have HX2 := Lib.hid (HXa.out.below hb2)
  have HY2 := Lib.hid (HYa.out.below hb2)
  have HZ2 := Lib.hid (HZa.out.step (lo := wa.heap.size) (by omega) hb2)
  have HB2 := Lib.hid (HBa.out.trans (hb2.mono HBa.out.size))
  have hs2 : w.heap.size + 3 ≤ w2.heap.size := by have := hb2.size; omega
  clear hb2
  have hd0 := HY2.out.c0
  have hd1 := HY2.out.c1
  have HPw := Lib.hid (HPe.out w2 HY2.out HB2.out)
  go_wp2_with fail
  refine (HPw.out).mono ?_
  rintro e w4 ⟨rfl, hb4⟩
  have HX4 := Lib.hid (HX2.out.below hb4)
  have HY4 := Lib.hid (HY2.out.below hb4)
  have HZ4 := Lib.hid (HZ2.out.step (lo := w2.heap.size) (by omega) hb4)
  have HB4 := Lib.hid (HB2.out.trans (hb4.mono HB2.out.size))
  have hs4 : w.heap.size + 3 ≤ w4.heap.size := by have := hb4.size; omega
  clear hb4 hd0 hd1
  have hc0 := HX4.out.c0
  have hc1 := HX4.out.c1
  have hd0 := HY4.out.c0
  have hd1 := HY4.out.c1
  have HO0 := Lib.hid (show OwnM (w4.alloc (.cells #[] 45)) w4.heap.size (some ⟨w4.heap.size, 0, none⟩) 0 (fun _ => (none, 0)) [] from OwnM.lit0 w4 (Nat.le_refl _) _)
  have HBb := Lib.hid (below_boxed w4 (.cells #[] 45))
  have HRw := Lib.hid (HR.out.below HB4.out)
  have HRyw := Lib.hid (HRy.out.below HB4.out)
  go_wp2
  go_loopw [8, 9] (fun o v wr => ∃ (i s : Nat) (A' : Option Addr) (c' : Nat) (R' : Spine), i ≤ n ∧ v = .int .i64 i ∧ o = .slice A' s c' ∧ s ≤ 1000 * i ∧ Hid ((pdX N xss yss i).length = s) ∧ Hid (OwnM wr w4.heap.size A' c' R' (pdX N xss yss i)) ∧ Hid (Below w4.heap.size w4 wr)) (fun _ v _ => n - (intOf v).toNat)
  case atStart => exact ⟨0, 0, _, _, _, Nat.zero_le _, rfl, rfl, Nat.zero_le _, Lib.hid rfl, HO0, HBb⟩
  case round =>
    obtain ⟨i, s, A', c', R', hi, rfl, rfl, hs, HS, HOl, HB⟩ := hrel
    have hc1r := (HB.out.cell (p := ⟨w.heap.size, 1, none⟩) (show w.heap.size < w4.heap.size by omega)).trans hc1
    by_cases hin : i < n
    · skip
      obtain ⟨b, off, b1, o1, cc, e, hb, hb1, hch, hcc3, hcx⟩ := HRw.out.tri HTx.out (i := i) (by rw [HN.out]; exact hin)
      have hx0 := HTx.out.pt (i := i) (by rw [HN.out]; exact hin) (c := 0) (by omega)
      have hx1 := HTx.out.pt (i := i) (by rw [HN.out]; exact hin) (c := 1) (by omega)
      have hx2 := HTx.out.pt (i := i) (by rw [HN.out]; exact hin) (c := 2) (by omega)
      have HNi := Lib.hid (pdX_succ N xss yss i)
      rw [HM.out] at HNi
      obtain ⟨x, hx⟩ : ∃ x, x = row xss i := ⟨_, rfl⟩
      rw [← hx] at hcx hx0 hx1 hx2 HNi
      obtain ⟨L, hL⟩ : ∃ L, L = pdX N xss yss i := ⟨_, rfl⟩
      rw [← hL] at HNi HS HOl
      have HLL := Lib.hid hL
      have HXX := Lib.hid hx
      have hcx0 := hcx 0 (by omega)
      have hcx1 := hcx 1 (by omega)
      have hcx2 := hcx 2 (by omega)
      obtain ⟨X0, hX0⟩ : ∃ X0, X0 = sN x 0 := ⟨_, rfl⟩
      obtain ⟨X1, hX1⟩ : ∃ X1, X1 = sN x 1 := ⟨_, rfl⟩
      obtain ⟨X2, hX2⟩ : ∃ X2, X2 = sN x 2 := ⟨_, rfl⟩
      rw [← hX0] at hcx0 hx0
      rw [← hX1] at hcx1 hx1
      rw [← hX2] at hcx2 hx2
      have hxn := HTx.out.ne (i := i) (by rw [HN.out]; exact hin)
      rw [← HXX.out, ← hX0, ← hX1, ← hX2] at hxn
      obtain ⟨u0, hu0⟩ : ∃ u, u = N * X0 := ⟨_, rfl⟩
      obtain ⟨u1, hu1⟩ : ∃ u, u = N * X1 := ⟨_, rfl⟩
      obtain ⟨u2, hu2⟩ : ∃ u, u = N * X2 := ⟨_, rfl⟩
      have HU0 := Lib.hid (show u0 = N * sN x 0 by rw [hu0, hX0])
      have HU1 := Lib.hid (show u1 = N * sN x 1 by rw [hu1, hX1])
      have HU2 := Lib.hid (show u2 = N * sN x 2 by rw [hu2, hX2])
      have hl0 : u0 ≤ 1024 := by rw [hu0]; exact Nat.mul_le_mul hN32 (show X0 ≤ 32 by omega)
      have hl1 : u1 ≤ 1024 := by rw [hu1]; exact Nat.mul_le_mul hN32 (show X1 ≤ 32 by omega)
      have hl2 : u2 ≤ 1024 := by rw [hu2]; exact Nat.mul_le_mul hN32 (show X2 ≤ 32 by omega)
      have hw0 : IntKind.i64.wrap ((N : Int) * (X0 : Int)) = (u0 : Int) := by rw [← Int.natCast_mul, ← hu0]; exact IntWalk.i64_in _ (by omega)
      have hw1 : IntKind.i64.wrap ((N : Int) * (X1 : Int)) = (u1 : Int) := by rw [← Int.natCast_mul, ← hu1]; exact IntWalk.i64_in _ (by omega)
      have hw2 : IntKind.i64.wrap ((N : Int) * (X2 : Int)) = (u2 : Int) := by rw [← Int.natCast_mul, ← hu2]; exact IntWalk.i64_in _ (by omega)
      have HNe := Lib.hid (fun (y z : Nat) (hy : y < N) (hz : z < N) => And.intro (show u0 + y ≠ u1 + z from by rw [hu0, hu1]; exact mul_ne hxn.1 hy hz) (And.intro (show u0 + y ≠ u2 + z from by rw [hu0, hu2]; exact mul_ne hxn.2.1 hy hz) (show u1 + y ≠ u2 + z from by rw [hu1, hu2]; exact mul_ne hxn.2.2 hy hz)))
      have hcxs : w4.cell? ⟨b1, o1, none⟩ = some (.int .i64 (X0 : Int)) ∧ w4.cell? ⟨b1, o1 + 1, none⟩ = some (.int .i64 (X1 : Int)) ∧ w4.cell? ⟨b1, o1 + 2, none⟩ = some (.int .i64 (X2 : Int)) := ⟨hcx0, hcx1, hcx2⟩
      have HCx := Lib.hid hcxs
      have hci := (HB.out.cell (p := ⟨b, off + i, none⟩) hb).trans hch
      subst e
      clear hcx hcx0 hcx1 hcx2 hX0 hX1 hX2 hu0 hu1 hu2 hL hx hcxs hch hxn
      have hi0 : (0 : Int) ≤ (i : Int) := by omega
      have hi1 : (i : Int) < (n : Int) := by omega
      go_wp2
      go_loopw [8, 11] (fun o v wr => ∃ (y s : Nat) (A' : Option Addr) (c' : Nat) (R' : Spine), y ≤ N ∧ v = .int .i64 y ∧ o = .slice A' s c' ∧ s ≤ 1000 * i + y ∧ Hid ((L ++ pdAs N x y).length = s) ∧ Hid (OwnM wr w4.heap.size A' c' R' (L ++ pdAs N x y)) ∧ Hid (Below w4.heap.size w4 wr)) (fun _ v _ => N - (intOf v).toNat)
      case atStart => exact ⟨0, s, _, _, _, Nat.zero_le _, rfl, rfl, by omega, Lib.hid (by rw [show pdAs N x 0 = [] from rfl, List.append_nil]; exact HS.out), Lib.hid (by rw [show pdAs N x 0 = [] from rfl, List.append_nil]; exact HOl.out), HB⟩
      case round =>
        obtain ⟨y, n6, A6, c6, R6, hy, rfl, rfl, hs6, HN6, HO6, HB6⟩ := hrel
        by_cases hyn : y < N
        · have hS := pk3 HB6.out.drew hb1 hb1 hb1 HCx.out
          have hK := fun (W' : World) (hb : Below w4.heap.size wr.drew W') => pk3 hb hb1 hb1 hb1 hS
          have HTc := Lib.hid (fun W => have hne := HNe.out y y hyn hyn; l11Block_t W (x := (u0 : Int) + (y : Int)) (y := (u1 : Int) + (y : Int)) (z := (u2 : Int) + (y : Int)) (by have := hne.1; omega) (by have := hne.2.1; omega) (by have := hne.2.2; omega))
          have HNx := Lib.hid (show L ++ pdAs N x (y + 1) = (L ++ pdAs N x y) ++ [trp ((u0 : Int) + (y : Int)) ((u1 : Int) + (y : Int)) ((u2 : Int) + (y : Int))] by rw [pdAs_succ, ← List.append_assoc, pdA_eq HU0.out HU1.out HU2.out])
          have hy0 : (0 : Int) ≤ (y : Int) := by omega
          have hy1 : (y : Int) < (N : Int) := by omega
          have hv0 : IntKind.i64.wrap ((u0 : Int) + (y : Int)) = (u0 : Int) + (y : Int) := IntWalk.i64_in _ (by omega)
          have hv1 : IntKind.i64.wrap ((u1 : Int) + (y : Int)) = (u1 : Int) + (y : Int) := IntWalk.i64_in _ (by omega)
          have hv2 : IntKind.i64.wrap ((u2 : Int) + (y : Int)) = (u2 : Int) + (y : Int) := IntWalk.i64_in _ (by omega)
          have hz6 := HB6.out.size
          have hz6' : w4.heap.size ≤ wr.drew.heap.size := hz6
          go_wp2
          go_region_held3 (fun w' => w'.cell? ⟨b1, o1, none⟩ = some (.int .i64 (X0 : Int)) ∧ w'.cell? ⟨b1, o1 + 1, none⟩ = some (.int .i64 (X1 : Int)) ∧ w'.cell? ⟨b1, o1 + 2, none⟩ = some (.int .i64 (X2 : Int))) (first | exact hS | exact hS7 | exact hS7a | exact hS8)
            (first | (go_at_call 46; (with_reducible refine (HTc.out _).mono ?_); rintro e w7 ⟨⟨A7, n7, c7, rfl, hn7, ho7⟩, hb7⟩; have hS7 := hK w7 (hb7.mono hz6'); have hS7a := hK (w7.alloc (.cells #[.slice A7 n7 c7] 45)) ((hb7.mono hz6').alloc (Nat.le_trans hz6' hb7.size) _)) | (refine stepM_append rfl _ _ rfl w4.heap.size A6 c6 n6 R6 (L ++ pdAs N x y) A7 n7 c7 (trp ((u0 : Int) + (y : Int)) ((u1 : Int) + (y : Int)) ((u2 : Int) + (y : Int))) w7.heap.size (by rfl) (by rfl) HN6.out hn7 ((HO6.out.drew.below hb7).alloc (.cells #[.slice A7 n7 c7] 45)) ((ho7.lower (lo' := w4.heap.size) hz6').alloc (.cells #[.slice A7 n7 c7] 45)) (later_apart HO6.out.drew ho7) (World.cell?_alloc_at _ _ _ _ rfl) (by omega) (Nat.le_trans hz6' (Nat.le_trans hb7.size (by simp))) ?_; intro A8 c8 R8 w8 ho8 hg8 ha8; have hS8 := hK w8 (((hb7.mono hz6').alloc (Nat.le_trans hz6' hb7.size) (.cells #[.slice A7 n7 c7] 45)).trans (below_blkM ((HO6.out.drew.below hb7).alloc (.cells #[.slice A7 n7 c7] 45)) hg8 (Nat.le_refl _) (Nat.le_trans hz6' (Nat.le_trans hb7.size (by simp)))))) | fail "no arm")
          have hB7 : Below w4.heap.size w4 w7 := HB6.out.drew.trans (hb7.mono hz6')
          have hz7 := hB7.size
          have HB8 := Lib.hid ((hB7.alloc hz7 (.cells #[.slice A7 n7 c7] 45)).trans (below_blkM ((HO6.out.drew.below hb7).alloc (.cells #[.slice A7 n7 c7] 45)) hg8 (Nat.le_refl _) (by simp; omega)))
          have HO8 := Lib.hid (show OwnM w8 w4.heap.size A8 c8 R8 (L ++ pdAs N x (y + 1)) from by rw [HNx.out]; exact ho8)
          have HN8 := Lib.hid (show (L ++ pdAs N x (y + 1)).length = n6 + 1 from by rw [HNx.out, List.length_append, HN6.out]; rfl)
          clear ho8 hg8 ha8 hn7 ho7 hb7 hB7 hz7 hS hK hS7 hS7a hS8
          go_wp2
          go_roundw
          case rel => exact ⟨y + 1, n6 + 1, A8, c8, R8, by omega, by go_num, rfl, by omega, HN8, HO8, HB8⟩
          case measure => simp [intOf] <;> omega
        · obtain rfl : N = y := by omega
          obtain ⟨L2, hL2⟩ : ∃ L2, L2 = L ++ pdAs N x N := ⟨_, rfl⟩
          rw [← List.append_assoc, ← hL2] at HNi
          rw [← hL2] at HN6 HO6
          clear hL2
          have hd1r := (HB6.out.cell (p := ⟨w.heap.size + 1, 1, none⟩) (show w.heap.size + 1 < w4.heap.size by omega)).trans hd1
          go_wp2
          go_loopw [8, 12] (fun o v wr => ∃ (j s : Nat) (A' : Option Addr) (c' : Nat) (R' : Spine), j ≤ m ∧ v = .int .i64 j ∧ o = .slice A' s c' ∧ s ≤ 1000 * i + 32 + 6 * j ∧ Hid ((L2 ++ pdBs N x yss j).length = s) ∧ Hid (OwnM wr w4.heap.size A' c' R' (L2 ++ pdBs N x yss j)) ∧ Hid (Below w4.heap.size w4 wr)) (fun _ v _ => m - (intOf v).toNat)
          case atStart => exact ⟨0, n6, _, _, _, Nat.zero_le _, rfl, rfl, by omega, Lib.hid (by rw [show pdBs N x yss 0 = [] from rfl, List.append_nil]; exact HN6.out), Lib.hid (by rw [show pdBs N x yss 0 = [] from rfl, List.append_nil]; exact HO6.out), HB6⟩
          case round =>
            obtain ⟨j, s3, A3, c3, R3, hj, rfl, rfl, hs3, HN3, HO3, HB3⟩ := hrel
            have hd1q := (HB3.out.cell (p := ⟨w.heap.size + 1, 1, none⟩) (show w.heap.size + 1 < w4.heap.size by omega)).trans hd1
            by_cases hjm : j < m
            · skip
              obtain ⟨bb, ofb, b2, o2, cb, e, hbb, hb2, hchb, hccb3, hcy⟩ := HRyw.out.tri HTy.out (i := j) (by rw [HM.out]; exact hjm)
              have hy0 := HTy.out.pt (i := j) (by rw [HM.out]; exact hjm) (c := 0) (by omega)
              have hy1 := HTy.out.pt (i := j) (by rw [HM.out]; exact hjm) (c := 1) (by omega)
              have hy2 := HTy.out.pt (i := j) (by rw [HM.out]; exact hjm) (c := 2) (by omega)
              have hyP : ∀ c, c < 3 → sN (row yss j) c < N := fun c hc => HTy.out.pt (i := j) (by rw [HM.out]; exact hjm) hc
              have hcj := (HB3.out.cell (p := ⟨bb, ofb + j, none⟩) hbb).trans hchb
              have HNj := Lib.hid (pdBs_succ N x yss j)
              obtain ⟨y, hyy⟩ : ∃ y, y = row yss j := ⟨_, rfl⟩
              rw [← hyy] at hcy hyP HNj
              have HCy := Lib.hid hcy
              have HYp := Lib.hid hyP
              obtain ⟨L3, hL3⟩ : ∃ L3, L3 = L2 ++ pdBs N x yss j := ⟨_, rfl⟩
              have HNk := Lib.hid (show L2 ++ pdBs N x yss (j + 1) = L3 ++ pdBr N x y 6 by rw [HNj.out, ← List.append_assoc, ← hL3])
              rw [← hL3] at HN3 HO3
              have hj0 : (0 : Int) ≤ (j : Int) := by omega
              have hj1 : (j : Int) < (m : Int) := by omega
              subst e
              clear hcy hyP hyy hL3 hchb hy0 hy1 hy2
              go_wp2
              go_loopw [8, 14] (fun o v wr => ∃ (r s : Nat) (A' : Option Addr) (c' : Nat) (R' : Spine), r ≤ 6 ∧ v = .int .i64 r ∧ o = .slice A' s c' ∧ s ≤ 1000 * i + 32 + 6 * j + r ∧ Hid ((L3 ++ pdBr N x y r).length = s) ∧ Hid (OwnM wr w4.heap.size A' c' R' (L3 ++ pdBr N x y r)) ∧ Hid (Below w4.heap.size w4 wr)) (fun _ v _ => 6 - (intOf v).toNat)
              case atStart => exact ⟨0, s3, _, _, _, Nat.zero_le _, rfl, rfl, by omega, Lib.hid (by rw [show pdBr N x y 0 = [] from rfl, List.append_nil]; exact HN3.out), Lib.hid (by rw [show pdBr N x y 0 = [] from rfl, List.append_nil]; exact HO3.out), HB3⟩
              case round =>
                obtain ⟨r, n6, A6, c6, R6, hr, rfl, rfl, hs6, HN6, HO9, HB9⟩ := hrel
                by_cases hr6 : r < 6
                · skip
                  have ha := un_lt r hr6
                  obtain ⟨a0, ha0⟩ : ∃ a, a = un r 0 := ⟨_, rfl⟩
                  obtain ⟨a1, ha1⟩ : ∃ a, a = un r 1 := ⟨_, rfl⟩
                  obtain ⟨a2, ha2⟩ : ∃ a, a = un r 2 := ⟨_, rfl⟩
                  obtain ⟨hq0, hq1, hq2, _, _, _, hq3⟩ := ha
                  rw [← ha0] at hq0
                  rw [← ha1] at hq1
                  rw [← ha2] at hq2
                  have hcy0 := HCy.out a0 hq0
                  have hcy1 := HCy.out a1 hq1
                  have hcy2 := HCy.out a2 hq2
                  have hp0 := HYp.out _ hq0
                  have hp1 := HYp.out _ hq1
                  have hp2 := HYp.out _ hq2
                  obtain ⟨V0, hV0⟩ : ∃ V, V = sN y a0 := ⟨_, rfl⟩
                  obtain ⟨V1, hV1⟩ : ∃ V, V = sN y a1 := ⟨_, rfl⟩
                  obtain ⟨V2, hV2⟩ : ∃ V, V = sN y a2 := ⟨_, rfl⟩
                  rw [← hV0] at hcy0 hp0
                  rw [← hV1] at hcy1 hp1
                  rw [← hV2] at hcy2 hp2
                  have HNx := Lib.hid (show L3 ++ pdBr N x y (r + 1) = (L3 ++ pdBr N x y r) ++ [trp ((u0 : Int) + (V0 : Int)) ((u1 : Int) + (V1 : Int)) ((u2 : Int) + (V2 : Int))] by rw [pdBr_succ, ← List.append_assoc, pdB_eq HU0.out HU1.out HU2.out (hV0.trans (by rw [ha0])) (hV1.trans (by rw [ha1])) (hV2.trans (by rw [ha2]))])
                  have hcys : w4.cell? ⟨b2, o2 + a0, none⟩ = some (.int .i64 (V0 : Int)) ∧ w4.cell? ⟨b2, o2 + a1, none⟩ = some (.int .i64 (V1 : Int)) ∧ w4.cell? ⟨b2, o2 + a2, none⟩ = some (.int .i64 (V2 : Int)) := ⟨hcy0, hcy1, hcy2⟩
                  have HCys := Lib.hid hcys
                  have hv0 : IntKind.i64.wrap ((u0 : Int) + (V0 : Int)) = (u0 : Int) + (V0 : Int) := IntWalk.i64_in _ (by omega)
                  have hv1 : IntKind.i64.wrap ((u1 : Int) + (V1 : Int)) = (u1 : Int) + (V1 : Int) := IntWalk.i64_in _ (by omega)
                  have hv2 : IntKind.i64.wrap ((u2 : Int) + (V2 : Int)) = (u2 : Int) + (V2 : Int) := IntWalk.i64_in _ (by omega)
                  have HA0 := Lib.hid ha0
                  have HA1 := Lib.hid ha1
                  have HA2 := Lib.hid ha2
                  have hr0 : (0 : Int) ≤ (r : Int) := by omega
                  have hr1 : (r : Int) < 6 := by omega
                  have hi0 : (0 : Int) ≤ (a0 : Int) := by omega
                  have hi1 : (a0 : Int) < 3 := by omega
                  have hi2 : (0 : Int) ≤ (a1 : Int) := by omega
                  have hi3 : (a1 : Int) < 3 := by omega
                  have hi4 : (0 : Int) ≤ (a2 : Int) := by omega
                  have hi5 : (a2 : Int) < 3 := by omega
                  clear hcy0 hcy1 hcy2 hcys hV0 hV1 hV2 ha0 ha1 ha2
                  have HTc := Lib.hid (fun W => l11Block_t W (x := (u0 : Int) + (V0 : Int)) (y := (u1 : Int) + (V1 : Int)) (z := (u2 : Int) + (V2 : Int)) (by have := (HNe.out V0 V1 hp0 hp1).1; omega) (by have := (HNe.out V0 V2 hp0 hp2).2.1; omega) (by have := (HNe.out V1 V2 hp1 hp2).2.2; omega))
                  obtain ⟨wo, rfl⟩ : ∃ wo, wo = wr := ⟨_, rfl⟩
                  go_wp2_with fail
                  refine (HUn.out wo r hr6).mono ?_
                  rintro e wr ⟨⟨A5, n5, c5, rfl, hn5, ho5⟩, hb5⟩
                  obtain rfl : 3 = n5 := hq3.symm.trans hn5
                  obtain ⟨g, rfl, hg1, hg2, _, _⟩ := ho5.at_ (k := 0) (by omega)
                  have HPd := Lib.hid (show OwnI wr.drew wo.heap.size (some ⟨g, 0, none⟩) c5 (un3 r) from ho5.drewN 1)
                  have hg0 := (ho5.lt rfl).1
                  have HA5 := Lib.hid (show ∀ g', (some ⟨g, 0, none⟩ : Option Addr) = some ⟨g', 0, none⟩ → blk A6 ≠ some g' from fun g' e e2 => by
                    have := HO9.out.blk_ltP g' e2
                    injection e with e; injection e with e; omega)
                  have HO6 := Lib.hid (HO9.out.below hb5)
                  have HB6 := Lib.hid (HB9.out.trans (hb5.mono HB9.out.size))
                  have hS : (wr.drew.cell? ⟨b1, o1, none⟩ = some (.int .i64 (X0 : Int)) ∧ wr.drew.cell? ⟨b1, o1 + 1, none⟩ = some (.int .i64 (X1 : Int)) ∧ wr.drew.cell? ⟨b1, o1 + 2, none⟩ = some (.int .i64 (X2 : Int))) ∧ (wr.drew.cell? ⟨g, 0, none⟩ = some (.int .i64 (a0 : Int)) ∧ wr.drew.cell? ⟨g, 1, none⟩ = some (.int .i64 (a1 : Int)) ∧ wr.drew.cell? ⟨g, 2, none⟩ = some (.int .i64 (a2 : Int))) ∧ (wr.drew.cell? ⟨b2, o2 + a0, none⟩ = some (.int .i64 (V0 : Int)) ∧ wr.drew.cell? ⟨b2, o2 + a1, none⟩ = some (.int .i64 (V1 : Int)) ∧ wr.drew.cell? ⟨b2, o2 + a2, none⟩ = some (.int .i64 (V2 : Int))) := ⟨pk3 HB6.out.drew hb1 hb1 hb1 HCx.out, HPd.out.threeP hr6 HA0.out HA1.out HA2.out, pk3 HB6.out.drew hb2 hb2 hb2 HCys.out⟩
                  have hK := fun (W' : World) (hb : Below w4.heap.size wr.drew W') (ho : OwnI W' wo.heap.size (some ⟨g, 0, none⟩) c5 (un3 r)) => And.intro (pk3 hb hb1 hb1 hb1 hS.1) (And.intro (ho.threeP hr6 HA0.out HA1.out HA2.out) (pk3 hb hb2 hb2 hb2 hS.2.2))
                  clear hn5 ho5 hb5
                  have hz6 := HB6.out.size
                  have hz6' : w4.heap.size ≤ wr.drew.heap.size := hz6
                  go_wp2
                  go_region_held3 (fun w' => (w'.cell? ⟨b1, o1, none⟩ = some (.int .i64 (X0 : Int)) ∧ w'.cell? ⟨b1, o1 + 1, none⟩ = some (.int .i64 (X1 : Int)) ∧ w'.cell? ⟨b1, o1 + 2, none⟩ = some (.int .i64 (X2 : Int))) ∧ (w'.cell? ⟨g, 0, none⟩ = some (.int .i64 (a0 : Int)) ∧ w'.cell? ⟨g, 1, none⟩ = some (.int .i64 (a1 : Int)) ∧ w'.cell? ⟨g, 2, none⟩ = some (.int .i64 (a2 : Int))) ∧ (w'.cell? ⟨b2, o2 + a0, none⟩ = some (.int .i64 (V0 : Int)) ∧ w'.cell? ⟨b2, o2 + a1, none⟩ = some (.int .i64 (V1 : Int)) ∧ w'.cell? ⟨b2, o2 + a2, none⟩ = some (.int .i64 (V2 : Int)))) (first | exact hS | exact hS7 | exact hS7a | exact hS8)
                    (first | (go_at_call 46; (with_reducible refine (HTc.out _).mono ?_); rintro e w7 ⟨⟨A7, n7, c7, rfl, hn7, ho7⟩, hb7⟩; have hS7 := hK w7 (hb7.mono hz6') (HPd.out.below hb7); have hS7a := hK (w7.alloc (.cells #[.slice A7 n7 c7] 45)) ((hb7.mono hz6').alloc (Nat.le_trans hz6' hb7.size) _) ((HPd.out.below hb7).alloc _)) | (refine stepM_append rfl _ _ rfl w4.heap.size A6 c6 n6 R6 (L3 ++ pdBr N x y r) A7 n7 c7 (trp ((u0 : Int) + (V0 : Int)) ((u1 : Int) + (V1 : Int)) ((u2 : Int) + (V2 : Int))) w7.heap.size (by rfl) (by rfl) HN6.out hn7 ((HO6.out.drew.below hb7).alloc (.cells #[.slice A7 n7 c7] 45)) ((ho7.lower (lo' := w4.heap.size) hz6').alloc (.cells #[.slice A7 n7 c7] 45)) (later_apart HO6.out.drew ho7) (World.cell?_alloc_at _ _ _ _ rfl) (by omega) (Nat.le_trans hz6' (Nat.le_trans hb7.size (by simp))) ?_; intro A8 c8 R8 w8 ho8 hg8 ha8; have hS8 := hK w8 (((hb7.mono hz6').alloc (Nat.le_trans hz6' hb7.size) (.cells #[.slice A7 n7 c7] 45)).trans (below_blkM ((HO6.out.drew.below hb7).alloc (.cells #[.slice A7 n7 c7] 45)) hg8 (Nat.le_refl _) (Nat.le_trans hz6' (Nat.le_trans hb7.size (by simp))))) (((HPd.out.below hb7).alloc (.cells #[.slice A7 n7 c7] 45)).grown hg8 HA5.out)) | fail "no arm")
                  have hB7 : Below w4.heap.size w4 w7 := HB6.out.drew.trans (hb7.mono hz6')
                  have hz7 := hB7.size
                  have HB8 := Lib.hid ((hB7.alloc hz7 (.cells #[.slice A7 n7 c7] 45)).trans (below_blkM ((HO6.out.drew.below hb7).alloc (.cells #[.slice A7 n7 c7] 45)) hg8 (Nat.le_refl _) (by simp; omega)))
                  have HO8 := Lib.hid (show OwnM w8 w4.heap.size A8 c8 R8 (L3 ++ pdBr N x y (r + 1)) from by rw [HNx.out]; exact ho8)
                  have HN8 := Lib.hid (show (L3 ++ pdBr N x y (r + 1)).length = n6 + 1 from by rw [HNx.out, List.length_append, HN6.out]; rfl)
                  clear ho8 hg8 ha8 hn7 ho7 hb7 hB7 hz7 hS hK hS7 hS7a hS8
                  go_wp2
                  go_roundw
                  case rel => exact ⟨r + 1, n6 + 1, A8, c8, R8, by omega, by go_num, rfl, by omega, HN8, HO8, HB8⟩
                  case measure => simp [intOf] <;> omega
                · obtain rfl : r = 6 := by omega
                  rw [← HNk.out] at HN6 HO9
                  go_wp2
                  go_roundw
                  case rel => exact ⟨j + 1, n6, A6, c6, R6, by omega, by go_num, rfl, by omega, HN6, HO9, HB9⟩
                  case measure => simp [intOf] <;> omega
            · obtain rfl : m = j := by omega
              rw [← HNi.out] at HN3 HO3
              go_wp2
              go_roundw
              case rel => exact ⟨i + 1, s3, A3, c3, R3, by omega, by go_num, rfl, by omega, HN3, HO3, HB3⟩
              case measure => simp [intOf] <;> omega
    · obtain rfl : n = i := by omega
      obtain ⟨L, hL⟩ : ∃ L, L = pdX N xss yss n := ⟨_, rfl⟩
      rw [← hL] at HS HOl HLd
      clear hL
      go_wp2
      go_loopw [8, 16] (fun o v wr => ∃ (j s : Nat) (A' : Option Addr) (c' : Nat) (R' : Spine), j ≤ m ∧ v = .int .i64 j ∧ o = .slice A' s c' ∧ s ≤ 128000 + 32 * j ∧ Hid ((L ++ pdDs N P yss j).length = s) ∧ Hid (OwnM wr w4.heap.size A' c' R' (L ++ pdDs N P yss j)) ∧ Hid (Below w4.heap.size w4 wr)) (fun _ v _ => m - (intOf v).toNat)
      case atStart => exact ⟨0, s, _, _, _, Nat.zero_le _, rfl, rfl, by omega, Lib.hid (by rw [show pdDs N P yss 0 = [] from rfl, List.append_nil]; exact HS.out), Lib.hid (by rw [show pdDs N P yss 0 = [] from rfl, List.append_nil]; exact HOl.out), HB⟩
      case round =>
        obtain ⟨j, s3, A3, c3, R3, hj, rfl, rfl, hs3, HN3, HO3, HB3⟩ := hrel
        have hd1q := (HB3.out.cell (p := ⟨w.heap.size + 1, 1, none⟩) (show w.heap.size + 1 < w4.heap.size by omega)).trans hd1
        by_cases hjm : j < m
        · have HNi := Lib.hid (pdDs_succ N P yss j)
          obtain ⟨bb, ofb, b2, o2, cb, e, hbb, hb2, hchb, hccb3, hcy⟩ := HRyw.out.tri HTy.out (i := j) (by rw [HM.out]; exact hjm)
          have hy0 := HTy.out.pt (i := j) (by rw [HM.out]; exact hjm) (c := 0) (by omega)
          have hy1 := HTy.out.pt (i := j) (by rw [HM.out]; exact hjm) (c := 1) (by omega)
          have hy2 := HTy.out.pt (i := j) (by rw [HM.out]; exact hjm) (c := 2) (by omega)
          have hyP : ∀ c, c < 3 → sN (row yss j) c < N := fun c hc => HTy.out.pt (i := j) (by rw [HM.out]; exact hjm) hc
          have hyn := HTy.out.ne (i := j) (by rw [HM.out]; exact hjm)
          have hcj := (HB3.out.cell (p := ⟨bb, ofb + j, none⟩) hbb).trans hchb
          obtain ⟨y, hyy⟩ : ∃ y, y = row yss j := ⟨_, rfl⟩
          rw [← hyy] at hcy hy0 hy1 hy2 HNi hyn
          have hcy0 := hcy 0 (by omega)
          have hcy1 := hcy 1 (by omega)
          have hcy2 := hcy 2 (by omega)
          obtain ⟨V0, hV0⟩ : ∃ V, V = sN y 0 := ⟨_, rfl⟩
          obtain ⟨V1, hV1⟩ : ∃ V, V = sN y 1 := ⟨_, rfl⟩
          obtain ⟨V2, hV2⟩ : ∃ V, V = sN y 2 := ⟨_, rfl⟩
          rw [← hV0] at hcy0 hy0
          rw [← hV1] at hcy1 hy1
          rw [← hV2] at hcy2 hy2
          rw [← hV0, ← hV1, ← hV2] at hyn
          have HV0 := Lib.hid hV0
          have HV1 := Lib.hid hV1
          have HV2 := Lib.hid hV2
          have HCx := Lib.hid (And.intro hcy0 (And.intro hcy1 hcy2))
          have HYn := Lib.hid hyn
          obtain ⟨L2, hL2⟩ : ∃ L2, L2 = L ++ pdDs N P yss j := ⟨_, rfl⟩
          have HNk := Lib.hid (show L ++ pdDs N P yss (j + 1) = L2 ++ pdDr N y P by rw [HNi.out, ← List.append_assoc, ← hL2])
          rw [← hL2] at HN3 HO3
          have hj0 : (0 : Int) ≤ (j : Int) := by omega
          have hj1 : (j : Int) < (m : Int) := by omega
          subst e
          clear hL2 hcy hcy0 hcy1 hcy2 hyP hyy hchb hV0 hV1 hV2 hyn
          go_wp2
          go_loopw [8, 18] (fun o v wr => ∃ (x s : Nat) (A' : Option Addr) (c' : Nat) (R' : Spine), x ≤ P ∧ v = .int .i64 x ∧ o = .slice A' s c' ∧ s ≤ 128000 + 32 * j + x ∧ Hid ((L2 ++ pdDr N y x).length = s) ∧ Hid (OwnM wr w4.heap.size A' c' R' (L2 ++ pdDr N y x)) ∧ Hid (Below w4.heap.size w4 wr)) (fun _ v _ => P - (intOf v).toNat)
          case atStart => exact ⟨0, s3, _, _, _, Nat.zero_le _, rfl, rfl, by omega, Lib.hid (by rw [show pdDr N y 0 = [] from rfl, List.append_nil]; exact HN3.out), Lib.hid (by rw [show pdDr N y 0 = [] from rfl, List.append_nil]; exact HO3.out), HB3⟩
          case round =>
            obtain ⟨x, n6, A6, c6, R6, hx, rfl, rfl, hs6, HN6, HO6, HB6⟩ := hrel
            have hc0q := (HB6.out.cell (p := ⟨w.heap.size, 0, none⟩) (show w.heap.size < w4.heap.size by omega)).trans hc0
            by_cases hxP : x < P
            · obtain ⟨u, hu⟩ : ∃ u, u = N * x := ⟨_, rfl⟩
              have hul : u ≤ 1024 := by rw [hu]; exact Nat.mul_le_mul hN32 (show x ≤ 32 by omega)
              have hwu : IntKind.i64.wrap ((N : Int) * (x : Int)) = (u : Int) := by rw [← Int.natCast_mul, ← hu]; exact IntWalk.i64_in _ (by omega)
              have HU := Lib.hid hu
              have hx0 : (0 : Int) ≤ (x : Int) := by omega
              have hx1 : (x : Int) < (P : Int) := by omega
              have hv0 : IntKind.i64.wrap ((u : Int) + (V0 : Int)) = (u : Int) + (V0 : Int) := IntWalk.i64_in _ (by omega)
              have hv1 : IntKind.i64.wrap ((u : Int) + (V1 : Int)) = (u : Int) + (V1 : Int) := IntWalk.i64_in _ (by omega)
              have hv2 : IntKind.i64.wrap ((u : Int) + (V2 : Int)) = (u : Int) + (V2 : Int) := IntWalk.i64_in _ (by omega)
              have hS := pk3 HB6.out.drew hb2 hb2 hb2 HCx.out
              have hK := fun (W' : World) (hb : Below w4.heap.size wr.drew W') => pk3 hb hb2 hb2 hb2 hS
              have HTc := Lib.hid (fun W => l11Block_t W (x := (u : Int) + (V0 : Int)) (y := (u : Int) + (V1 : Int)) (z := (u : Int) + (V2 : Int)) (by have := HYn.out.1; omega) (by have := HYn.out.2.1; omega) (by have := HYn.out.2.2; omega))
              have HNx := Lib.hid (show L2 ++ pdDr N y (x + 1) = (L2 ++ pdDr N y x) ++ [trp ((u : Int) + (V0 : Int)) ((u : Int) + (V1 : Int)) ((u : Int) + (V2 : Int))] by rw [pdDr_succ, ← List.append_assoc, pdC_eq HU.out HV0.out HV1.out HV2.out])
              clear hu
              have hz6 := HB6.out.size
              have hz6' : w4.heap.size ≤ wr.drew.heap.size := hz6
              go_wp2
              go_region_held3 (fun w' => w'.cell? ⟨b2, o2, none⟩ = some (.int .i64 (V0 : Int)) ∧ w'.cell? ⟨b2, o2 + 1, none⟩ = some (.int .i64 (V1 : Int)) ∧ w'.cell? ⟨b2, o2 + 2, none⟩ = some (.int .i64 (V2 : Int))) (first | exact hS | exact hS7 | exact hS7a | exact hS8)
                (first | (go_at_call 46; (with_reducible refine (HTc.out _).mono ?_); rintro e w7 ⟨⟨A7, n7, c7, rfl, hn7, ho7⟩, hb7⟩; have hS7 := hK w7 (hb7.mono hz6'); have hS7a := hK (w7.alloc (.cells #[.slice A7 n7 c7] 45)) ((hb7.mono hz6').alloc (Nat.le_trans hz6' hb7.size) _)) | (refine stepM_append rfl _ _ rfl w4.heap.size A6 c6 n6 R6 (L2 ++ pdDr N y x) A7 n7 c7 (trp ((u : Int) + (V0 : Int)) ((u : Int) + (V1 : Int)) ((u : Int) + (V2 : Int))) w7.heap.size (by rfl) (by rfl) HN6.out hn7 ((HO6.out.drew.below hb7).alloc (.cells #[.slice A7 n7 c7] 45)) ((ho7.lower (lo' := w4.heap.size) hz6').alloc (.cells #[.slice A7 n7 c7] 45)) (later_apart HO6.out.drew ho7) (World.cell?_alloc_at _ _ _ _ rfl) (by omega) (Nat.le_trans hz6' (Nat.le_trans hb7.size (by simp))) ?_; intro A8 c8 R8 w8 ho8 hg8 ha8; have hS8 := hK w8 (((hb7.mono hz6').alloc (Nat.le_trans hz6' hb7.size) (.cells #[.slice A7 n7 c7] 45)).trans (below_blkM ((HO6.out.drew.below hb7).alloc (.cells #[.slice A7 n7 c7] 45)) hg8 (Nat.le_refl _) (Nat.le_trans hz6' (Nat.le_trans hb7.size (by simp)))))) | fail "no arm")
              have hB7 : Below w4.heap.size w4 w7 := HB6.out.drew.trans (hb7.mono hz6')
              have hz7 := hB7.size
              have HB8 := Lib.hid ((hB7.alloc hz7 (.cells #[.slice A7 n7 c7] 45)).trans (below_blkM ((HO6.out.drew.below hb7).alloc (.cells #[.slice A7 n7 c7] 45)) hg8 (Nat.le_refl _) (by simp; omega)))
              have HO8 := Lib.hid (show OwnM w8 w4.heap.size A8 c8 R8 (L2 ++ pdDr N y (x + 1)) from by rw [HNx.out]; exact ho8)
              have HN8 := Lib.hid (show (L2 ++ pdDr N y (x + 1)).length = n6 + 1 from by rw [HNx.out, List.length_append, HN6.out]; rfl)
              clear ho8 hg8 ha8 hn7 ho7 hb7 hB7 hz7 hS hK hS7 hS7a hS8
              go_wp2
              go_roundw
              case rel => exact ⟨x + 1, n6 + 1, A8, c8, R8, by omega, by go_num, rfl, by omega, HN8, HO8, HB8⟩
              case measure => simp [intOf] <;> omega
            · obtain rfl : P = x := by omega
              rw [← HNk.out] at HN6 HO6
              go_wp2
              go_roundw
              case rel => exact ⟨j + 1, n6, A6, c6, R6, by omega, by go_num, rfl, by omega, HN6, HO6, HB6⟩
              case measure => simp [intOf] <;> omega
        · obtain rfl : m = j := by omega
          rw [← HLd.out] at HN3 HO3
          have HSr := Lib.hid (HSo.out wr A3 s3 c3 R3 HO3.out.rd (by rw [← HN3.out]; exact HO3.out.nilCap) HN3.out)
          have HZr := Lib.hid (HZ4.out.step (lo := w4.heap.size) (by omega) HB3.out)
          have HBr := Lib.hid (HB4.out.trans (HB3.out.mono HB4.out.size))
          have hsr := HB3.out.size
          clear hc0 hc1 hd0 hd1 hc1r
          go_wp2_with fail
          refine (HSr.out).mono ?_
          rintro e w9 ⟨⟨A9, n9, c9, R9, rfl, hn9, ho9⟩, hb9⟩
          have HZ9 := Lib.hid (HZr.out.step (lo := wr.heap.size) (by omega) hb9)
          have HB9 := Lib.hid (HBr.out.trans (hb9.mono HBr.out.size))
          have HO10 := Lib.hid (show OwnM w9 (w.heap.size + 2 + 1) A9 c9 R9 lst from ho9.lower (by omega))
          have HN9 := Lib.hid hn9
          clear ho9 hn9 hb9
          have rz := HZ9.out
          have z0 := rz.c0
          have z1 := rz.c1
          have y0 := rz.f0
          have y1 := rz.f1
          clear rz
          go_wp2
          obtain ⟨r0, r1⟩ := HZ9.out.read (.int .i64 (M : Int)) (.slice A9 n9 c9)
          refine bodyPost_ret (v := .tuple #[.agg #[.int .i64 (M : Int), .slice A9 n9 c9], .int .i64 0]) (by simp [results, Try.results21, go_sem, r0, r1]) rfl ⟨⟨A9, n9, c9, R9, rfl, HN9.out, own_set2 HO10.out (by omega) _ _⟩, below_set2 HB9.out (by omega)⟩
end Go.Proofs.Ytamklliaibfljaa
