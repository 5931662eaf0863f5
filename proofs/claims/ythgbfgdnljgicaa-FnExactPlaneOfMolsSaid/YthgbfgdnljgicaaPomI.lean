/-
  PlaneOfMols of the program. Conditions: those of the theorem.
-/
import Derived.Test.YthgbfgdnljgicaaPomE
import Derived.Test.YthgbfgdnljgicaaPomD
namespace Go.Proofs.Ythgbfgdnljgicaa
open Go.RowKit
set_option linter.unusedVariables false
set_option linter.unusedSimpArgs false

set_option maxRecDepth 100000 in
set_option maxHeartbeats 32000000 in
theorem implPlaneOfMols_c (w : World) (A : Option Addr) (q c : Nat) (S : Spine3) (x : List (List (List Int))) (hr : RdL w A c S x) (hq : x.length = q) (hw : WfT x) (hz : (q : Int) + (wgt x : Nat) ≤ 1048576) :
    Calls Try.prog 7 #[.slice A q c] w (PostDC w (pomP x) (pomX x) (pomC x)) := by
  have hzD := zeroD
  obtain ⟨wa, hwa⟩ : ∃ wa, wa = w.alloc (.cells #[.int .i64 0, .slice none 0 0] 26) := ⟨_, rfl⟩
  have hZa : RBox wa w.heap.size := by rw [hwa]; exact RBox.made w 26
  have hBa : Below w.heap.size w wa := by rw [hwa]; exact below_boxed w (.cells #[.int .i64 0, .slice none 0 0] 26)
  have hsa : w.heap.size + 1 ≤ wa.heap.size := by rw [hwa]; simp
  have HZa := Lib.hid hZa
  have HBa := Lib.hid hBa
  have hq1 : q ≤ 1048576 := by omega
  have hpl := pln_small (x := x) (by omega)
  have hV := ValidMols_c wa A q c S x (hr.below hBa) hq hq1 (fun i hi => row_small (hpl i (by omega)).2)
  have HWa := Lib.hid hwa
  rcases hs : molB x with _ | _
  · rw [show pomP x = 0 from if_neg (by rw [hs]; simp), show pomX x = [] from if_neg (by rw [hs]; simp), show pomC x = 1 from if_neg (by rw [hs]; simp)]
    rw [hs] at hV
    have HV := Lib.hid hV
    clear hV hs hwa hZa hBa hr hq hw hz hpl
    go_enter Try.func7, Try.ntmps7
    go_wp2_with fail
    rw [← HWa.out]
    refine (HV.out).mono ?_
    rintro e w2 ⟨rfl, hb2⟩
    have HZ2 := Lib.hid (HZa.out.step (lo := wa.heap.size) (by omega) hb2)
    have HB2 := Lib.hid (HBa.out.trans (hb2.mono HBa.out.size))
    have hs2 : w.heap.size + 1 ≤ w2.heap.size := by have := hb2.size; omega
    clear hb2
    have rz := HZ2.out
    have z0 := rz.c0
    have z1 := rz.c1
    have y0 := rz.f0
    have y1 := rz.f1
    clear rz
    go_wp2
    obtain ⟨r0, r1⟩ := HZ2.out.read (.int .i64 0) (.slice none 0 0)
    refine bodyPost_ret (v := .tuple #[.agg #[.int .i64 0, .slice none 0 0], .int .i64 1]) (by simp [results, Try.results7, go_sem, r0, r1]) rfl ⟨⟨none, 0, 0, fun _ => (none, 0), rfl, rfl, OwnM.nil_ _ _ _⟩, by first | exact HB2.out | exact below_set2 HB2.out (by omega)⟩
  rw [hs] at hV
  have HV := Lib.hid hV
  have hm := of_decide_eq_true (show decide ((1 ≤ x.length ∧ x.length ≤ 10) ∧ ∀ i, i < x.length → molAt x i i) = true from hs)
  have hq10 : q ≤ 10 := by omega
  have hq0 : 0 < q := by omega
  have hPk := pom_pl hs
  obtain ⟨n, hnd⟩ : ∃ n, n = pomN x := ⟨_, rfl⟩
  have hsq0 := sqB_ent (n := n) (hm.2 0 (by omega)).1 (by rw [hnd]; rfl)
  have hn10 : n ≤ 10 := by omega
  have hn1 : 1 ≤ n := by omega
  obtain ⟨M, hM⟩ : ∃ M, M = n * n := ⟨_, rfl⟩
  have hM100 : M ≤ 10 * 10 := by rw [hM]; exact Nat.mul_le_mul hn10 hn10
  have hMi : (n : Int) * (n : Int) = (M : Int) := by rw [hM, Int.natCast_mul]
  have hwM : IntKind.i64.wrap ((n : Int) * (n : Int)) = (M : Int) := by rw [hMi]; exact IntWalk.i64_in _ (by omega)
  have hRP : pomP x = if M ≤ 32 then (if q + 1 = n then (M : Int) else 0) else 0 := by unfold pomP; rw [if_pos hs, ← hnd, ← hM, hq]
  have hRX : pomX x = if M ≤ 32 then (if q + 1 = n then sortLL (pomI n x) else []) else [] := by unfold pomX; rw [if_pos hs, ← hnd, ← hM, hq]
  have hRC : pomC x = if M ≤ 32 then (if q + 1 = n then 0 else 6) else 2 := by unfold pomC; rw [if_pos hs, ← hnd, ← hM, hq]
  rw [hRP, hRX, hRC]
  obtain ⟨b, off, e, hb, hc0⟩ := hr.at_ 0 (by omega)
  subst e
  rw [Nat.add_zero, show (pln x 0).length = n from hnd.symm] at hc0
  have HC0 := Lib.hid hc0
  have HR := Lib.hid hr
  have HQ := Lib.hid hq
  have hq0i : (0 : Int) < (q : Int) := by omega
  rw [← hnd] at hPk
  have HPk := Lib.hid hPk
  by_cases h32 : M ≤ 32
  rotate_left
  · rw [if_neg h32, if_neg h32, if_neg h32]
    have h32d : (32 : Int) < (M : Int) := by omega
    clear hV hs hwa hZa hBa hr hq hw hz hpl hm hnd hM hMi hRP hRX hRC hsq0 hc0 h32 hPk
    go_enter Try.func7, Try.ntmps7
    go_wp2_with fail
    rw [← HWa.out]
    refine (HV.out).mono ?_
    rintro e w2 ⟨rfl, hb2⟩
    have HZ2 := Lib.hid (HZa.out.step (lo := wa.heap.size) (by omega) hb2)
    have HB2 := Lib.hid (HBa.out.trans (hb2.mono HBa.out.size))
    have hs2 : w.heap.size + 1 ≤ w2.heap.size := by have := hb2.size; omega
    clear hb2
    have hc2 := (HB2.out.cell (p := ⟨b, off, none⟩) hb).trans HC0.out
    (go_wp2_with fail); refine (sizeS_c _ _ _ _).mono ?_; rintro e w' ⟨rfl, rfl⟩
    clear hc2
    have rz := HZ2.out
    have z0 := rz.c0
    have z1 := rz.c1
    have y0 := rz.f0
    have y1 := rz.f1
    clear rz
    go_wp2
    obtain ⟨r0, r1⟩ := HZ2.out.read (.int .i64 0) (.slice none 0 0)
    refine bodyPost_ret (v := .tuple #[.agg #[.int .i64 0, .slice none 0 0], .int .i64 2]) (by simp [results, Try.results7, go_sem, r0, r1]) rfl ⟨⟨none, 0, 0, fun _ => (none, 0), rfl, rfl, OwnM.nil_ _ _ _⟩, by first | exact HB2.out | exact below_set2 HB2.out (by omega)⟩
  rw [if_pos h32, if_pos h32, if_pos h32]
  have h32d : ¬ (32 : Int) < (M : Int) := by omega
  have hwn1 : IntKind.i64.wrap ((n : Int) - 1) = ((n - 1 : Nat) : Int) := by rw [show (n : Int) - 1 = ((n - 1 : Nat) : Int) by omega]; exact IntWalk.i64_in _ (by omega)
  by_cases hqn : q + 1 = n
  rotate_left
  · rw [if_neg hqn, if_neg hqn, if_neg hqn]
    have hqd : ((q : Int) != ((n - 1 : Nat) : Int)) = true := by simp; omega
    have hqd2 : ((q : Int) == ((n - 1 : Nat) : Int)) = false := by simp; omega
    have hqd3 : ¬ q = n - 1 := by omega
    clear hV hs hwa hZa hBa hr hq hw hz hpl hm hnd hM hMi hRP hRX hRC hsq0 hc0 hPk hqn
    go_enter Try.func7, Try.ntmps7
    go_wp2_with fail
    rw [← HWa.out]
    refine (HV.out).mono ?_
    rintro e w2 ⟨rfl, hb2⟩
    have HZ2 := Lib.hid (HZa.out.step (lo := wa.heap.size) (by omega) hb2)
    have HB2 := Lib.hid (HBa.out.trans (hb2.mono HBa.out.size))
    have hs2 : w.heap.size + 1 ≤ w2.heap.size := by have := hb2.size; omega
    clear hb2
    have hc2 := (HB2.out.cell (p := ⟨b, off, none⟩) hb).trans HC0.out
    (go_wp2_with fail); refine (sizeS_c _ _ _ _).mono ?_; rintro e w' ⟨rfl, rfl⟩
    (go_wp2_with fail); refine (sizeL_c _ _ _ _).mono ?_; rintro e w' ⟨rfl, rfl⟩
    clear hc2
    have rz := HZ2.out
    have z0 := rz.c0
    have z1 := rz.c1
    have y0 := rz.f0
    have y1 := rz.f1
    clear rz
    go_wp2
    obtain ⟨r0, r1⟩ := HZ2.out.read (.int .i64 0) (.slice none 0 0)
    refine bodyPost_ret (v := .tuple #[.agg #[.int .i64 0, .slice none 0 0], .int .i64 6]) (by simp [results, Try.results7, go_sem, r0, r1]) rfl ⟨⟨none, 0, 0, fun _ => (none, 0), rfl, rfl, OwnM.nil_ _ _ _⟩, by first | exact HB2.out | exact below_set2 HB2.out (by omega)⟩
  rw [if_pos hqn, if_pos hqn, if_pos hqn]
  have hqe : n - 1 = q := by omega
  have hqd : ((q : Int) != ((n - 1 : Nat) : Int)) = false := by simp; omega
  have hn5 : n ≤ 5 := sq_le5 (by rw [← hM]; exact h32)
  obtain ⟨m, hmd⟩ : ∃ m, m = 2 + q := ⟨_, rfl⟩
  have hm6 : m ≤ 6 := by omega
  have hlen := pomI_small (n := n) (x := x) (by rw [← hM]; exact h32) (by omega)
  have HSo := Lib.hid (fun (W : World) (A7 : Option Addr) (s c7 : Nat) (R7 : Spine) (hr : RdM W A7 c7 R7 (pomI n x)) (hs : (pomI n x).length = s) => (show Calls Try.prog 24 #[.int .i64 (M : Int), .slice A7 s c7] W (PostDC W (M : Int) (sortLL (pomI n x)) 0) from by
    have := sorted_c W (M : Int) A7 s c7 R7 (pomI n x) hr hs (by omega) (fun k hk => by
      have := pomI_rows (n := n) (x := x) (r := row (pomI n x) k) (by rw [row_eq (by omega)]; exact List.getElem_mem _)
      have := Nat.mul_le_mul hn5 hn5
      omega)
    rwa [show mkP (M : Int) (pomI n x) = (M : Int) from if_pos hlen, show mkL (pomI n x) = sortLL (pomI n x) from if_pos hlen, show mkC (pomI n x) = 0 from if_pos hlen] at this))
  obtain ⟨z, hzd⟩ : ∃ z, z = [sqTo rwF n n, sqTo clF n n] ++ x := ⟨_, rfl⟩
  have HPz := Lib.hid (show ∀ k, k < m → PlOk n (pln z k) from fun k hk => by rw [hzd]; exact pz_pl hPk k (by omega))
  have HEq := Lib.hid (show pomL n z m = pomI n x from by rw [hzd, hmd, ← hq]; exact pomI_eq n x)
  have HZd := Lib.hid hzd
  have HMd := Lib.hid hmd
  have HZl := Lib.hid (show z.length = m by rw [hzd, List.length_append, hmd, hq]; rfl)
  have HFr := Lib.hid (fun W => filledSquare_c W (n : Int) n 21 #[] rwF (enters_of Try.func21 (by kernel_rfl) rfl) (by omega) (by omega) (fun W x y _ _ _ => pom1_c W x y))
  have HFc := Lib.hid (fun W => filledSquare_c W (n : Int) n 22 #[] clF (enters_of Try.func22 (by kernel_rfl) rfl) (by omega) (by omega) (fun W x y _ _ _ => pom2_c W x y))
  have hmk := fun W : World => run_make_row' (P := Try.prog) 24 35 (.slice none 0 0) 24 Try.underlying24 infoS rfl .i64 .i64 n (by omega) (by omega) W
  have HMk := Lib.hid hmk
  generalize sortLL (pomI n x) = rX at *
  clear hV hs hwa hZa hBa hr hq hw hz hpl hm hnd hM hMi hRP hRX hRC hsq0 hc0 hPk hzd hlen hmk
  go_enter Try.func7, Try.ntmps7
  go_wp2_with fail
  rw [← HWa.out]
  refine (HV.out).mono ?_
  rintro e w2 ⟨rfl, hb2⟩
  have HZ2 := Lib.hid (HZa.out.step (lo := wa.heap.size) (by omega) hb2)
  have HB2 := Lib.hid (HBa.out.trans (hb2.mono HBa.out.size))
  have hs2 : w.heap.size + 1 ≤ w2.heap.size := by have := hb2.size; omega
  clear hb2
  have hc2 := (HB2.out.cell (p := ⟨b, off, none⟩) hb).trans HC0.out
  go_wp2_with fail
  refine (sizeS_c _ _ _ _).mono ?_
  rintro e w' ⟨rfl, rfl⟩
  clear hc2
  go_wp2_with fail
  refine (sizeL_c _ _ _ _).mono ?_
  rintro e w' ⟨rfl, rfl⟩
  go_wp2_with fail
  refine (HFr.out _).mono ?_
  rintro e w3 ⟨⟨A3, n3, c3, R3, rfl, hn3, ho3⟩, hb3⟩
  obtain rfl : n = n3 := by rw [length_sqTo] at hn3; exact hn3
  go_wp2_with fail
  refine (HFc.out _).mono ?_
  rintro e w4 ⟨⟨A4, n4, c4, R4, rfl, hn4, ho4⟩, hb4⟩
  obtain rfl : n = n4 := by rw [length_sqTo] at hn4; exact hn4
  have hb34 : Below w2.heap.size w2 w4 := hb3.trans (hb4.mono hb3.size)
  obtain ⟨w6, hw6⟩ : ∃ w6, w6 = (w4.alloc (.cells #[.slice A3 n c3, .slice A4 n c4] 24)).alloc (.cells #[.slice (some ⟨w4.heap.size, 0, none⟩) 2 2, .slice (some ⟨b, off, none⟩) q c] 22) := ⟨_, rfl⟩
  have hb46 : Below w4.heap.size w4 w6 := by rw [hw6]; exact (below_boxed _ _).alloc (by simp) _
  have hb26 : Below w2.heap.size w2 w6 := hb34.trans (hb46.mono hb34.size)
  obtain ⟨S0, hS0⟩ : ∃ S0 : Spine3, S0 = fun k => if k = 0 then (A3, c3, R3) else (A4, c4, R4) := ⟨_, rfl⟩
  have hx0 : w6.cell? ⟨w4.heap.size, 0, none⟩ = some (.slice A3 n c3) := by rw [hw6, World.cell?_alloc_past _ _ _ (by simp), World.cell?_alloc_at _ _ _ _ rfl]; rfl
  have hx1 : w6.cell? ⟨w4.heap.size, 1, none⟩ = some (.slice A4 n c4) := by rw [hw6, World.cell?_alloc_past _ _ _ (by simp), World.cell?_alloc_at _ _ _ _ rfl]; rfl
  have hy0 : w6.cell? ⟨w4.heap.size + 1, 0, none⟩ = some (.slice (some ⟨w4.heap.size, 0, none⟩) 2 2) := by rw [hw6, World.cell?_alloc_at _ _ _ _ (by simp)]; rfl
  have hy1 : w6.cell? ⟨w4.heap.size + 1, 1, none⟩ = some (.slice (some ⟨b, off, none⟩) q c) := by rw [hw6, World.cell?_alloc_at _ _ _ _ (by simp)]; rfl
  have hs46 : w4.heap.size < w6.heap.size := by rw [hw6]; simp <;> omega
  have hrl : RdL w6 (some ⟨w4.heap.size, 0, none⟩) 2 S0 [sqTo rwF n n, sqTo clF n n] := by
    refine ⟨by simp, by unfold maxLen; omega, fun k hk => ⟨w4.heap.size, 0, rfl, hs46, ?_⟩, fun k hk => ?_⟩
    · rcases (show k = 0 ∨ k = 1 by simp at hk; omega) with rfl | rfl
      · rw [show (pln [sqTo rwF n n, sqTo clF n n] 0).length = n from length_sqTo _ _ _, hS0]; exact hx0
      · rw [show (pln [sqTo rwF n n, sqTo clF n n] 1).length = n from length_sqTo _ _ _, hS0]; exact hx1
    · rcases (show k = 0 ∨ k = 1 by simp at hk; omega) with rfl | rfl
      · rw [hS0]; exact (ho3.rd.below (hb4.mono (Nat.le_refl _))).below hb46
      · rw [hS0]; exact ho4.rd.below hb46
  have HB6 := Lib.hid (HB2.out.trans (hb26.mono HB2.out.size))
  have HZ6 := Lib.hid (HZ2.out.step (lo := w2.heap.size) (by omega) hb26)
  have HCo := Lib.hid (ConcatP_c w6 (w4.heap.size + 1) (some ⟨w4.heap.size, 0, none⟩) (some ⟨b, off, none⟩) 2 q 2 c S0 S [sqTo rwF n n, sqTo clF n n] x hy0 hy1 hrl rfl (HR.out.below HB6.out) HQ.out ⟨by omega, by omega⟩)
  have hs6 : w.heap.size + 1 ≤ w6.heap.size := by have := hb26.size; omega
  have HW6 := Lib.hid hw6
  clear hn3 ho3 hb3 hn4 ho4 hb4 hb34 hb46 hb26 hw6 hS0 hx0 hx1 hy0 hy1 hs46 hrl
  go_wp2_with fail
  rw [← HW6.out]
  refine (HCo.out).mono ?_
  rintro e w7 ⟨⟨A7, c7, rfl, hr7⟩, hb7⟩
  rw [← HMd.out]
  rw [← HZd.out] at hr7
  have HR7 := Lib.hid hr7
  have HB7 := Lib.hid (HB6.out.trans (hb7.mono HB6.out.size))
  have HZ7 := Lib.hid (HZ6.out.step (lo := w6.heap.size) (by omega) hb7)
  have hs7 : w.heap.size + 1 ≤ w7.heap.size := by have := hb7.size; omega
  have HO0 := Lib.hid (show OwnM w7 w7.heap.size none 0 (fun _ => (none, 0)) (pomL n z 0) from OwnM.nil_ w7 w7.heap.size _)
  generalize joinP S0 S 2 = Zs at *
  clear hr7 hb7 HR HQ HC0 HFr HFc HCo HW6 HZd HMd
  go_wp2
  go_loopw [7, 45] (fun s v wr => ∃ (k t : Nat) (A' : Option Addr) (c' : Nat) (R' : Spine), k ≤ m ∧ v = .int .i64 k ∧ s = .slice A' t c' ∧ Hid ((pomL n z k).length = t) ∧ Hid (OwnM wr w7.heap.size A' c' R' (pomL n z k)) ∧ Hid (Below w7.heap.size w7 wr)) (fun _ v _ => m - (intOf v).toNat)
  case atStart => exact ⟨0, 0, none, 0, _, Nat.zero_le _, rfl, rfl, Lib.hid rfl, HO0, Lib.hid (Below.refl _ _)⟩
  case round =>
    obtain ⟨k, t, A', c', R', hk, rfl, rfl, HT, HO, HBk⟩ := hrel
    have hszk := HBk.out.size
    have HBw := Lib.hid (HB7.out.trans (HBk.out.mono HB7.out.size))
    have ht : t ≤ 30 := by
      have h1 := HT.out
      rw [pomL_len] at h1
      have := Nat.mul_le_mul hn5 (show k ≤ 6 by omega)
      omega
    by_cases hkm : k < m
    · have hkz : k < z.length := by rw [HZl.out]; exact hkm
      obtain ⟨b7, off7, e7, hb7, hc7⟩ := HR7.out.at_ k hkz
      subst e7
      have hcc := (HBk.out.cell (p := ⟨b7, off7 + k, none⟩) hb7).trans hc7
      obtain ⟨hpl1, hpl2, hpl3⟩ := HPz.out k hkm
      rw [hpl1] at hcc
      have hk0 : (0 : Int) ≤ (k : Int) := by omega
      have hk2 : (k : Int) < (m : Int) := by omega
      have HRp := Lib.hid (HR7.out.rows k hkz)
      have HPl1 := Lib.hid hpl1
      have HPl2 := Lib.hid hpl2
      have HPl3 := Lib.hid hpl3
      have HM0 := Lib.hid (OwnM.made wr n (by unfold maxLen; omega) (Nat.le_refl wr.heap.size))
      have HMb := Lib.hid ((Below.refl wr.heap.size wr).alloc (Nat.le_refl _) (.cells (madeCells #[.slice none 0 0] n) 35))
      have hmk := HMk.out
      obtain ⟨wo, rfl⟩ : ∃ wo, wo = wr := ⟨_, rfl⟩
      obtain ⟨G, hG⟩ : ∃ G, G = wo.heap.size := ⟨_, rfl⟩
      clear hc7 hpl1 hpl2 hpl3
      go_wp2
      clear hmk hcc
      rw [← hG] at HM0 HMb ⊢
      generalize (wo.alloc (.cells (madeCells #[.slice none 0 0] n) 35)) = w8 at *
      have HG := Lib.hid hG
      have HD0 := Lib.hid (show OwnM w8 G (some ⟨G, 0, none⟩) n (fun _ => (none, 0)) (lnM (plE z k) n 0 0) from by rw [lnM_zero]; exact HM0.out)
      clear hG
      go_loopw [53] (fun v wr => ∃ (x : Nat) (R2 : Spine), x ≤ n ∧ v = .int .i64 x ∧ Hid (OwnM wr G (some ⟨G, 0, none⟩) n R2 (lnM (plE z k) n x 0)) ∧ Hid (Below G wo wr)) (fun v _ => n - (intOf v).toNat)
      case atStart => exact ⟨0, _, Nat.zero_le _, rfl, HD0, HMb⟩
      case round =>
        obtain ⟨x, R2, hx, rfl, HO3, HB3⟩ := hrel
        have hsz3 : G ≤ wr.heap.size := by have := HB3.out.size; have := HG.out; omega
        have HBw3 := Lib.hid (show Below w7.heap.size w7 wr from HBk.out.trans (HB3.out.mono (by rw [HG.out]; exact hszk)))
        by_cases hxn : x < n
        · have hxp : x < (pln z k).length := by rw [HPl1.out]; exact hxn
          obtain ⟨b, off, e, hb, hc⟩ := HRp.out.at_ x hxp
          have hcc := (HBw3.out.cell (p := ⟨b, off + x, none⟩) hb).trans hc
          rw [HPl2.out x hxn] at hcc
          have HRr := Lib.hid (HRp.out.rows x hxp)
          have hx0 : (0 : Int) ≤ (x : Int) := by omega
          have hx2 : (x : Int) < (n : Int) := by omega
          obtain ⟨m1, hm1⟩ : ∃ m1, m1 = n * x := ⟨_, rfl⟩
          have hm1l : m1 ≤ 5 * 5 := by rw [hm1]; exact Nat.mul_le_mul hn5 (by omega)
          have hw1 : IntKind.i64.wrap ((n : Int) * (x : Int)) = (m1 : Int) := by rw [← Int.natCast_mul, ← hm1]; exact IntWalk.i64_in _ (by omega)
          have HM1 := Lib.hid hm1
          rw [e]
          clear hc hm1
          obtain ⟨wi, rfl⟩ : ∃ wi, wi = wr := ⟨_, rfl⟩
          go_wp2
          go_loopw [60] (fun v wr => ∃ (y : Nat) (R5 : Spine), y ≤ n ∧ v = .int .i64 y ∧ Hid (OwnM wr G (some ⟨G, 0, none⟩) n R5 (lnM (plE z k) n x y)) ∧ Hid (Below G wo wr)) (fun v _ => n - (intOf v).toNat)
          case atStart => exact ⟨0, _, Nat.zero_le _, rfl, HO3, HB3⟩
          case round =>
            obtain ⟨y, R5, hy, rfl, HO5, HB5⟩ := hrel
            have hsz5 : G ≤ wr.heap.size := by have := HB5.out.size; have := HG.out; omega
            have HBw5 := Lib.hid (show Below w7.heap.size w7 wr from HBk.out.trans (HB5.out.mono (by rw [HG.out]; exact hszk)))
            by_cases hyn : y < n
            · have hyr : y < (row (pln z k) x).length := by rw [HPl2.out x hxn]; exact hyn
              obtain ⟨b2, off2, e2, hb2, hc2⟩ := HRr.out.at_ y hyr
              have hcc2 := (HBw5.out.cell (p := ⟨b2, off2 + y, none⟩) hb2).trans hc2
              obtain ⟨s, hsn, hs⟩ := HPl3.out x y hxn hyn
              rw [hs] at hcc2
              have hsm : s < (lnM (plE z k) n x y).length := by rw [lnM_len]; exact hsn
              have hput := lnM_put (f := plE z k) (x := x) (y := y) hs hsn
              obtain ⟨g1, eg1, _, _, hcx, hfx⟩ := HO5.out.at_ hsm
              injection eg1 with eg1
              injection eg1 with eg1
              subst eg1
              have HRx := Lib.hid (HO5.out.rows s hsm)
              have hxr := lnM_rlen (plE z k) hsn (show x ≤ n by omega) hy hn5
              obtain ⟨t5, ht5⟩ : ∃ t, t = (row (lnM (plE z k) n x y) s).length := ⟨_, rfl⟩
              rw [← ht5] at hcx hxr
              have HT5 := Lib.hid ht5.symm
              obtain ⟨z1, hz1⟩ : ∃ z1, z1 = m1 + y := ⟨_, rfl⟩
              have hz1l : z1 ≤ 40 := by omega
              have hw2 : IntKind.i64.wrap ((m1 : Int) + (y : Int)) = (z1 : Int) := by rw [← Int.natCast_add, ← hz1]; exact IntWalk.i64_in _ (by omega)
              rw [show n * x + y = z1 by rw [hz1, HM1.out]] at hput
              have HPut := Lib.hid hput
              have HO7 := Lib.hid (HO5.out.alloc (.cells #[.int .i64 (z1 : Int)] 2))
              have HXm := Lib.hid hsm
              have hs0 : (0 : Int) ≤ (s : Int) := by omega
              have hs1 : (s : Int) < (n : Int) := by omega
              have hy0 : (0 : Int) ≤ (y : Int) := by omega
              have hy1 : (y : Int) < (n : Int) := by omega
              rw [e2]
              clear hc2 hs ht5 hb2 hsm hz1 hput
              generalize row (lnM (plE z k) n x y) s = rx at *
              go_wp2_with (at_builtin; refine wpI_append rfl _ _ rfl G _ _ _ rx (z1 : Int) wr.heap.size rfl rfl HT5.out (HRx.out.alloc (.cells #[.int .i64 (z1 : Int)] 2)) (World.cell?_alloc_at _ _ _ _ rfl) (by omega) (by simp; omega) ?_; intro A3 c3 w4 ho4 hg4 ha4; obtain ⟨hcx4, hfx4⟩ := HO7.out.outer_at HXm.out hg4)
              have HBw4 := Lib.hid (show Below G wo w4 from (HB5.out.alloc hsz5 (.cells #[.int .i64 (z1 : Int)] 2)).trans (below_blk (HRx.out.alloc (.cells #[.int .i64 (z1 : Int)] 2)) hg4 (Nat.le_refl _) (by simp; omega)))
              have hpr := HO7.out.put_row HXm.out hg4 ho4 ha4
              rw [List.length_append, HT5.out] at hpr
              have HO8 := Lib.hid (show OwnM (w4.setCell ⟨G, s, none⟩ (.slice A3 (t5 + 1) c3)) G (some ⟨G, 0, none⟩) n (putS R5 s A3 c3) (lnM (plE z k) n x (y + 1)) from by rw [← HPut.out]; exact hpr)
              have HB8 := Lib.hid (HBw4.out.setCell (p := ⟨G, s, none⟩) (Nat.le_refl _) (.slice A3 (t5 + 1) c3))
              clear hpr ho4 hg4 ha4
              go_wp2
              go_roundw
              case rel => first | exact ⟨_, _, _, ⟨y + 1, by omega, by go_num, ⟨_, HO8⟩, HB8⟩, rfl, rfl, rfl⟩ | exact ⟨y + 1, _, by omega, by go_num, HO8, HB8⟩
              case measure => simp [intOf] <;> omega
            · obtain rfl : y = n := by omega
              have HO6 := Lib.hid (show OwnM wr G (some ⟨G, 0, none⟩) y R5 (lnM (plE z k) y (x + 1) 0) from by rw [← lnM_next]; exact HO5.out)
              go_wp2
              go_roundw
              case rel => exact ⟨x + 1, _, by omega, by go_num, HO6, HB5⟩
              case measure => simp [intOf] <;> omega
        · obtain rfl : x = n := by omega
          have HLs := Lib.hid (show OwnM wr G (some ⟨G, 0, none⟩) x R2 (lnS (plE z k) x x) from by rw [← lnM_all]; exact HO3.out)
          have HLl := Lib.hid (lnS_len (plE z k) x x)
          have hbo : Below wo.heap.size wo wr := by rw [← HG.out]; exact HB3.out
          have HOv := Lib.hid (show wr.ownsRow w7.heap.size 35 1 (.slice A' t c') t (valsM R' (pomL x z k)) from by
            have h2 : wr.ownsRow w7.heap.size 35 1 (.slice A' (pomL x z k).length c') (pomL x z k).length (valsM R' (pomL x z k)) := (HO.out.below hbo).own
            rw [HT.out] at h2
            exact h2)
          have HBo := Lib.hid hbo
          have hszr : w7.heap.size ≤ wr.heap.size := HBw3.out.size
          clear hbo
          go_wp2_with (at_builtin; refine wpA_append rfl _ _ rfl w7.heap.size A' c' t (valsM R' (pomL x z k)) (some ⟨G, 0, none⟩) x x R2 (lnS (plE z k) x x) rfl rfl HOv.out HLs.out.rd HLl.out (by omega) hszr ?_; intro A9 c9 w9 ho9 hg9 ha9)
          have HO9 := Lib.hid (show OwnM w9 w7.heap.size A9 c9 (joinS R' R2 (pomL x z k).length) (pomL x z (k + 1)) from by
            rw [pomL_succ]
            exact OwnM.grow_join HO.out HBo.out (by rw [HG.out]; exact Nat.le_refl _) hszk HLs.out (by rw [HT.out, HLl.out]; exact ho9) hg9)
          have HB9 := Lib.hid (HBw3.out.trans (below_blkV HOv.out hg9 (Nat.le_refl _) hszr))
          have HT9 := Lib.hid (show (pomL x z (k + 1)).length = t + x from by rw [pomL_succ, List.length_append, HT.out, HLl.out])
          clear ho9 hg9 ha9
          go_wp2
          go_roundw
          case rel => exact ⟨k + 1, t + x, A9, c9, _, by omega, by go_num, rfl, HT9, HO9, HB9⟩
          case measure => simp [intOf] <;> omega
    · obtain rfl : k = m := by omega
      have HOf := Lib.hid (show OwnM wr w7.heap.size A' c' R' (pomI n x) from by rw [← HEq.out]; exact HO.out)
      have HTf := Lib.hid (show (pomI n x).length = t from by rw [← HEq.out]; exact HT.out)
      have HZ8 := Lib.hid (HZ7.out.step (lo := w7.heap.size) (by omega) HBk.out)
      have hs8 : w.heap.size + 1 ≤ wr.heap.size := by omega
      go_wp2_with fail
      refine (HSo.out _ A' t c' R' HOf.out.rd HTf.out).mono ?_
      rintro e w9 ⟨⟨A9, n9, c9, R9, rfl, hn9, ho9⟩, hb9⟩
      have HZ9 := Lib.hid (HZ8.out.step (lo := wr.heap.size) (by omega) hb9)
      have HB9 := Lib.hid (HBw.out.trans (hb9.mono HBw.out.size))
      have HO9 := Lib.hid (show OwnM w9 (w.heap.size + 1) A9 c9 R9 (rX) from ho9.lower (by omega))
      have HN9 := Lib.hid hn9
      clear hb9 ho9 hn9
      generalize rX = lst at *
      generalize (M : Int) = ptz at *
      generalize (0 : Int) = cdz at *
      have rz := HZ9.out
      have z0 := rz.c0
      have z1 := rz.c1
      have y0 := rz.f0
      have y1 := rz.f1
      clear rz
      go_wp2
      obtain ⟨r0, r1⟩ := HZ9.out.read (.int .i64 ptz) (.slice A9 n9 c9)
      refine bodyPost_ret (v := .tuple #[.agg #[.int .i64 ptz, .slice A9 n9 c9], .int .i64 cdz]) (by simp [results, Try.results7, go_sem, r0, r1]) rfl ⟨⟨A9, n9, c9, R9, rfl, HN9.out, own_set2 HO9.out (by omega) _ _⟩, below_set2 HB9.out (by omega)⟩
end Go.Proofs.Ythgbfgdnljgicaa
