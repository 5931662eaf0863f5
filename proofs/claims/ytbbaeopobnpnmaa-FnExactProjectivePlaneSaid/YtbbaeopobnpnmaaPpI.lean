/-
  ProjectivePlane of the program. Conditions: those of each theorem.
-/
import Derived.Test.YtbbaeopobnpnmaaPpA
import Derived.Test.YtbbaeopobnpnmaaFldE
namespace Go.Proofs.Ytbbaeopobnpnmaa
open Go.RowKit
set_option linter.unusedVariables false
set_option linter.unusedSimpArgs false

theorem keep5 {lo B Bu Bv : Nat} {w w' : World} {v0 v1 v2 a b : Value} {c : Nat} (hb : Below lo w w') (hB : B < lo) (hu : Bu < lo) (hv : Bv < lo)
    (h : w.cell? ⟨B, 0, none⟩ = some v0 ∧ w.cell? ⟨B, 1, none⟩ = some v1 ∧ w.cell? ⟨B, 2, none⟩ = some v2 ∧ w.cell? ⟨Bu, c, none⟩ = some a ∧ w.cell? ⟨Bv, c, none⟩ = some b) :
    w'.cell? ⟨B, 0, none⟩ = some v0 ∧ w'.cell? ⟨B, 1, none⟩ = some v1 ∧ w'.cell? ⟨B, 2, none⟩ = some v2 ∧ w'.cell? ⟨Bu, c, none⟩ = some a ∧ w'.cell? ⟨Bv, c, none⟩ = some b :=
  ⟨(hb.cell (p := ⟨B, 0, none⟩) hB).trans h.1, (hb.cell (p := ⟨B, 1, none⟩) hB).trans h.2.1, (hb.cell (p := ⟨B, 2, none⟩) hB).trans h.2.2.1, (hb.cell (p := ⟨Bu, c, none⟩) hu).trans h.2.2.2.1, (hb.cell (p := ⟨Bv, c, none⟩) hv).trans h.2.2.2.2⟩

set_option maxHeartbeats 8000000 in
set_option maxRecDepth 100000 in
theorem implProjectivePlane_no (w : World) (q : Int) (hno : pjOk q = false) : Calls Try.prog 17 #[.int .i64 q] w (PostDC w 0 [] 2) := by
  have hzD := zeroD
  obtain ⟨wa, hwa⟩ : ∃ wa, wa = w.alloc (.cells #[.int .i64 0, .slice none 0 0] 29) := ⟨_, rfl⟩
  have hZa : RBox wa w.heap.size := by rw [hwa]; exact RBox.made w 29
  have hBa : Below w.heap.size w wa := by rw [hwa]; exact below_boxed w (.cells #[.int .i64 0, .slice none 0 0] 29)
  have hsa : w.heap.size + 1 ≤ wa.heap.size := by rw [hwa]; simp
  have HZa := Lib.hid hZa
  have HBa := Lib.hid hBa
  have HWa := Lib.hid hwa
  rcases hb : fdB q with _ | _
  · have HM := Lib.hid (MakeField_no wa q hb)
    clear hb hno hwa hZa hBa
    go_enter Try.func17, Try.ntmps17
    go_wp2_with fail
    rw [← HWa.out]
    refine (HM.out).mono ?_
    rintro e w1 ⟨⟨A1, n1, c1, rfl, hn1, ho1⟩, hb1⟩
    have hbb : Below wa.heap.size wa (w1.alloc (.cells #[.int .i64 (0), .int .i64 (0), .slice A1 n1 c1] 39)) := hb1.alloc hb1.size _
    have HZ2 := Lib.hid (HZa.out.step (lo := wa.heap.size) (by omega) hbb)
    have HB2 := Lib.hid (HBa.out.trans (hbb.mono HBa.out.size))
    clear hbb hb1 ho1 hn1
    have rz := HZ2.out
    have z0 := rz.c0
    have z1 := rz.c1
    have y0 := rz.f0
    have y1 := rz.f1
    clear rz
    go_wp2
    obtain ⟨r0, r1⟩ := HZ2.out.read (.int .i64 0) (.slice none 0 0)
    refine bodyPost_ret (v := .tuple #[.agg #[.int .i64 0, .slice none 0 0], .int .i64 2]) (by simp [results, Try.results17, go_sem, r0, r1]) rfl ⟨⟨none, 0, 0, fun _ => (none, 0), rfl, rfl, OwnM.nil_ _ _ _⟩, by first | exact HB2.out | exact below_set2 HB2.out (by omega)⟩
  · have hfs := fd_spec hb
    have HM := Lib.hid (MakeField_ok wa q hb)
    have hsq := square_small (q := q) (by omega) hfs.2.2.2.2.2.2
    have hq64 := hfs.2.2.2.2.2.2
    have hq2 := hfs.2.2.2.2.2.1
    have hqq : 32 < q * q + q + 1 := by
      rcases Int.lt_or_le 32 (q * q + q + 1) with h | h
      · exact h
      · have : pjOk q = true := decide_eq_true ⟨hb, h⟩
        rw [hno] at this; cases this
    obtain ⟨Q, hQ⟩ : ∃ Q, Q = q * q := ⟨_, rfl⟩
    have hw1 : IntKind.i64.wrap (q * q) = Q := by rw [← hQ]; exact IntWalk.i64_in _ (by omega)
    rw [← hQ] at hqq hsq
    have hw2 : IntKind.i64.wrap (Q + q) = Q + q := IntWalk.i64_in _ (by omega)
    have hw3 : IntKind.i64.wrap (Q + q + 1) = Q + q + 1 := IntWalk.i64_in _ (by omega)
    generalize fdP q = p at *
    generalize fdK q = k at *
    clear hb hno hwa hZa hBa hfs hQ
    go_enter Try.func17, Try.ntmps17
    go_wp2_with fail
    rw [← HWa.out]
    refine (HM.out).mono ?_
    rintro e w1 ⟨⟨A1, n1, c1, rfl, hn1, ho1⟩, hb1⟩
    have hbb : Below wa.heap.size wa (w1.alloc (.cells #[.int .i64 ((p : Int)), .int .i64 ((k : Int)), .slice A1 n1 c1] 39)) := hb1.alloc hb1.size _
    have HZ2 := Lib.hid (HZa.out.step (lo := wa.heap.size) (by omega) hbb)
    have HB2 := Lib.hid (HBa.out.trans (hbb.mono HBa.out.size))
    clear hbb hb1 ho1 hn1
    have rz := HZ2.out
    have z0 := rz.c0
    have z1 := rz.c1
    have y0 := rz.f0
    have y1 := rz.f1
    clear rz
    go_wp2
    obtain ⟨r0, r1⟩ := HZ2.out.read (.int .i64 0) (.slice none 0 0)
    refine bodyPost_ret (v := .tuple #[.agg #[.int .i64 0, .slice none 0 0], .int .i64 2]) (by simp [results, Try.results17, go_sem, r0, r1]) rfl ⟨⟨none, 0, 0, fun _ => (none, 0), rfl, rfl, OwnM.nil_ _ _ _⟩, by first | exact HB2.out | exact below_set2 HB2.out (by omega)⟩

set_option maxHeartbeats 16000000 in
set_option maxRecDepth 100000 in
theorem implProjectivePlane_yes (w : World) (n : Nat) (hyes : pjOk (n : Int) = true) : Calls Try.prog 17 #[.int .i64 (n : Int)] w (PostDC w ((pjN n : Nat) : Int) (sortLL (pjB (pjDq (n : Int)) (pjN n) (pjN n))) 0) := by
  obtain ⟨hb, hqq, hq2, hq5⟩ := pjOk_nat hyes
  have hn5 : n ≤ 5 := by omega
  have hn2 : 2 ≤ n := by omega
  have hV := fdY_valid hb
  have hzD := zeroD
  obtain ⟨wa, hwa⟩ : ∃ wa, wa = w.alloc (.cells #[.int .i64 0, .slice none 0 0] 29) := ⟨_, rfl⟩
  have hZa : RBox wa w.heap.size := by rw [hwa]; exact RBox.made w 29
  have hBa : Below w.heap.size w wa := by rw [hwa]; exact below_boxed w (.cells #[.int .i64 0, .slice none 0 0] 29)
  have hsa : w.heap.size + 1 ≤ wa.heap.size := by rw [hwa]; simp
  have HZa := Lib.hid hZa
  have HBa := Lib.hid hBa
  have HWa := Lib.hid hwa
  have HM := Lib.hid (MakeField_ok wa (n : Int) hb)
  obtain ⟨d, hd⟩ : ∃ d, d = pjDq (n : Int) := ⟨_, rfl⟩
  have hdd : ∀ i j, d i j = pjD (fdP (n : Int)) (fdK (n : Int)) (fdY (n : Int)) n i j 3 := fun i j => by rw [hd]; rfl
  rw [← hd]
  generalize fdP (n : Int) = p at *
  generalize fdK (n : Int) = k at *
  generalize fdY (n : Int) = poly at *
  have hF := hV.ok
  have HPl := Lib.hid hV.len
  have HDd := Lib.hid hdd
  have HMu := Lib.hid (fun W A c (hr : RdI W A c poly) (a b : Nat) (ha : a ≤ 64) (hb : b ≤ 64) => product_c W p k A (k + 1) c a b poly hF (by omega) (by omega) hr hV.len (Nat.le_refl _) (Nat.le_refl _) hV.dig)
  have HCo := Lib.hid (fun W A c (a b : Nat) (ha : a ≤ 64) (hb : b ≤ 64) => combine_c W p k A (k + 1) c a b 1 hF (by omega) (by omega) (by omega) (by omega))
  have HLt := Lib.hid (fun a b => show mulF p k poly a b ≤ 64 from by
    have h1 := (mulF_eq (k := k) (show 0 < p by have := hF.1; omega) (show 0 < k by have := hF.2.2.1; omega) poly a b).2
    have h2 := hF.2.2.2.2
    omega)
  have HLc := Lib.hid (fun a b => show cmbF p k 1 a b ≤ 64 from by
    have h1 := (cmbF_eq (k := k) (show 0 < p by have := hF.1; omega) 1 a b).2
    have h2 := hF.2.2.2.2
    omega)
  have HLd := Lib.hid (fun i j c => show pjD p k poly n i j c ≤ 64 from by
    cases c with
    | zero => exact Nat.zero_le _
    | succ c => exact HLc.out _ _)
  have hM31 := pjN_le hn5
  have hTl : (pjT n).length = pjN n := by rw [pjT_len]; rfl
  obtain ⟨M, hMd⟩ : ∃ M, M = pjN n := ⟨_, rfl⟩
  obtain ⟨Q, hQ⟩ : ∃ Q, Q = n * n := ⟨_, rfl⟩
  have hQ25 : Q ≤ 5 * 5 := by rw [hQ]; exact Nat.mul_le_mul hn5 hn5
  have hMQ : Q + n + 1 ≤ 31 := by rw [hQ]; exact hM31
  have hwQ : IntKind.i64.wrap ((n : Int) * (n : Int)) = (Q : Int) := by rw [← Int.natCast_mul, ← hQ]; exact IntWalk.i64_in _ (by omega)
  rw [← hMd] at hM31 hTl ⊢
  have hq32 : ¬ (32 : Int) < (Q : Int) + (n : Int) + 1 := by omega
  have HTl := Lib.hid hTl
  have HEn := Lib.hid (fun i c (hi : i < M) (hc : c < 3) => pjE_eq (n := n) (i := i) (c := c) hn2 (by rw [hTl]; exact hi) hc)
  have HSo := Lib.hid (fun (W : World) (A : Option Addr) (s c : Nat) (R : Spine) (hr : RdM W A c R (pjB d M M)) (hn : (pjB d M M).length = s) => by
    have := sorted_c W (M : Int) A s c R (pjB d M M) hr hn (by rw [pjB_len] at hn; omega) (fun i hi => by
      have := pjB_rows (d := d) (M := M) (m := M) (r := row (pjB d M M) i) (by rw [row_eq (by omega)]; exact List.getElem_mem _)
      omega)
    rwa [show mkP (M : Int) (pjB d M M) = (M : Int) from if_pos (by rw [pjB_len]; omega), show mkL (pjB d M M) = sortLL (pjB d M M) from if_pos (by rw [pjB_len]; omega), show mkC (pjB d M M) = 0 from if_pos (by rw [pjB_len]; omega)] at this)
  generalize sortLL (pjB d M M) = lst at *
  have HPt := Lib.hid (fun W => projectivePoints_c W n hn5)
  have hM1 : 1 ≤ M := by rw [hMd]; unfold pjN; omega
  clear hyes hb hqq hV hd hdd hF hwa hZa hBa hQ hMd hTl
  go_enter Try.func17, Try.ntmps17
  go_wp2_with fail
  rw [← HWa.out]
  refine (HM.out).mono ?_
  rintro e w1 ⟨⟨A1, n1, c1, rfl, hn1, ho1⟩, hb1⟩
  obtain rfl : k + 1 = n1 := HPl.out.symm.trans hn1
  obtain ⟨w2, hw2⟩ : ∃ w2, w2 = w1.alloc (.cells #[.int .i64 (p : Int), .int .i64 (k : Int), .slice A1 (k + 1) c1] 39) := ⟨_, rfl⟩
  have HX2 := Lib.hid (show FldC w2 w1.heap.size p k A1 (k + 1) c1 from by rw [hw2]; exact FldC.made w1 p k A1 (k + 1) c1 39)
  have hb2 : Below w1.heap.size w1 w2 := by rw [hw2]; exact below_boxed w1 _
  have HP2 := Lib.hid (ho1.rd.below hb2)
  have hb12 : Below wa.heap.size wa w2 := hb1.trans (hb2.mono hb1.size)
  have HZ2 := Lib.hid (HZa.out.step (lo := wa.heap.size) (by omega) hb12)
  have HB2 := Lib.hid (HBa.out.trans (hb12.mono HBa.out.size))
  have hs2 := hb12.size
  have HW2 := Lib.hid hw2
  clear hb1 ho1 hn1 hb2 hw2 hb12
  go_wp2_with fail
  rw [← HW2.out]
  refine (HPt.out w2).mono ?_
  rintro e w3 ⟨⟨A3, m3, c3, rfl, hm3, ho3⟩, hb3⟩
  obtain rfl : M = m3 := HTl.out.symm.trans hm3
  obtain ⟨gT, rfl, hgT, hgTs, _⟩ := ho3.at_ (i := 0) (by rw [HTl.out]; exact hM1)
  have HCT := Lib.hid (fun i c (hi : i < M) (hc : c < 3) => show w3.cell? ⟨gT, i * 3 + c, none⟩ = some (.int .i64 ((pjE n i c : Nat) : Int)) from by
    obtain ⟨g, eg, _, _, h⟩ := ho3.at_ (i := i) (by rw [HTl.out]; exact hi)
    injection eg with eg
    injection eg with eg
    subst eg
    rw [h c hc, (HEn.out i c hi hc).1])
  have HX3 := Lib.hid (HX2.out.below hb3)
  have HP3 := Lib.hid (HP2.out.below hb3)
  have HZ3 := Lib.hid (HZ2.out.step (lo := w2.heap.size) (by omega) hb3)
  have HB3 := Lib.hid (HB2.out.trans (hb3.mono HB2.out.size))
  have hs3 := hb3.size
  have hx3 := HX3.out.lt
  clear hb3 ho3 hm3
  have HO0 := Lib.hid (OwnM.nil_ w3 w3.heap.size (fun _ => (none, 0)))
  go_wp2
  go_loopw [7, 36] (fun o v wr => ∃ (i : Nat) (A' : Option Addr) (c' : Nat) (R' : Spine), i ≤ M ∧ v = .int .i64 i ∧ o = .slice A' i c' ∧ Hid (OwnM wr w3.heap.size A' c' R' (pjB d M i)) ∧ Hid (Below w3.heap.size w3 wr)) (fun _ v _ => M - (intOf v).toNat)
  case atStart => exact ⟨0, _, _, _, Nat.zero_le _, rfl, rfl, HO0, Lib.hid (Below.refl _ _)⟩
  case round =>
    obtain ⟨i, A', c', R', hi, rfl, rfl, HO, HB⟩ := hrel
    have hszr := HB.out.size
    by_cases hiM : i < M
    · have hi0 : (0 : Int) ≤ (i : Int) := by omega
      have hi1 : (i : Int) < (M : Int) := by omega
      have hu0 := (HB.out.cell (p := ⟨gT, i * 3 + 0, none⟩) hgTs).trans (HCT.out i 0 hiM (by omega))
      have hu1 := (HB.out.cell (p := ⟨gT, i * 3 + 1, none⟩) hgTs).trans (HCT.out i 1 hiM (by omega))
      have hu2 := (HB.out.cell (p := ⟨gT, i * 3 + 2, none⟩) hgTs).trans (HCT.out i 2 hiM (by omega))
      rw [Nat.add_zero] at hu0
      have HUc := Lib.hid (tri_cells wr ((pjE n i 0 : Nat) : Int) ((pjE n i 1 : Nat) : Int) ((pjE n i 2 : Nat) : Int))
      have HUn := Lib.hid (fun c (hc : c < 3) => show nth [((pjE n i 0 : Nat) : Int), ((pjE n i 1 : Nat) : Int), ((pjE n i 2 : Nat) : Int)] c = ((pjE n i c : Nat) : Int) from by
        rcases (show c = 0 ∨ c = 1 ∨ c = 2 by omega) with rfl | rfl | rfl <;> rfl)
      obtain ⟨wo, hwo⟩ : ∃ wo, wo = wr.alloc (.cells #[.int .i64 ((pjE n i 0 : Nat) : Int), .int .i64 ((pjE n i 1 : Nat) : Int), .int .i64 ((pjE n i 2 : Nat) : Int)] 54) := ⟨_, rfl⟩
      have HBo := Lib.hid (show Below wr.heap.size wr wo from by rw [hwo]; exact below_boxed wr _)
      have hso : wr.heap.size + 1 ≤ wo.heap.size := by rw [hwo]; simp
      rw [← hwo] at HUc
      have HWo := Lib.hid hwo
      have HI0 := Lib.hid (show OwnI wo wo.heap.size none 0 (pjL d i 0) from OwnI.nil_ _ _)
      clear hwo
      obtain ⟨wq, rfl⟩ : ∃ wq, wq = wr := ⟨_, rfl⟩
      go_wp2
      rw [← HWo.out]
      clear hu0 hu1 hu2
      go_loopw [10, 42] (fun o v wr => ∃ (j s : Nat) (A' : Option Addr) (c' : Nat), j ≤ M ∧ v = .int .i64 j ∧ o = .slice A' s c' ∧ s ≤ j ∧ Hid ((pjL d i j).length = s) ∧ Hid (OwnI wr wo.heap.size A' c' (pjL d i j)) ∧ Hid (Below wo.heap.size wo wr)) (fun _ v _ => M - (intOf v).toNat)
      case atStart => exact ⟨0, 0, none, 0, Nat.zero_le _, rfl, rfl, Nat.le_refl _, Lib.hid rfl, HI0, Lib.hid (Below.refl _ _)⟩
      case round =>
        obtain ⟨j, s, A5, c5, hj, rfl, rfl, hs, HS5, HO5, HB5⟩ := hrel
        have hsz5 := HB5.out.size
        have HBw := Lib.hid ((HB.out.trans (HBo.out.mono hszr)).trans (HB5.out.mono (by have := HBo.out.size; omega)))
        by_cases hjM : j < M
        · have hj0 : (0 : Int) ≤ (j : Int) := by omega
          have hj1 : (j : Int) < (M : Int) := by omega
          have hv0 := (HBw.out.cell (p := ⟨gT, j * 3 + 0, none⟩) hgTs).trans (HCT.out j 0 hjM (by omega))
          have hv1 := (HBw.out.cell (p := ⟨gT, j * 3 + 1, none⟩) hgTs).trans (HCT.out j 1 hjM (by omega))
          have hv2 := (HBw.out.cell (p := ⟨gT, j * 3 + 2, none⟩) hgTs).trans (HCT.out j 2 hjM (by omega))
          rw [Nat.add_zero] at hv0
          have HVc := Lib.hid (tri_cells wr ((pjE n j 0 : Nat) : Int) ((pjE n j 1 : Nat) : Int) ((pjE n j 2 : Nat) : Int))
          have HVn := Lib.hid (fun c (hc : c < 3) => show nth [((pjE n j 0 : Nat) : Int), ((pjE n j 1 : Nat) : Int), ((pjE n j 2 : Nat) : Int)] c = ((pjE n j c : Nat) : Int) from by
            rcases (show c = 0 ∨ c = 1 ∨ c = 2 by omega) with rfl | rfl | rfl <;> rfl)
          obtain ⟨wv, hwv⟩ : ∃ wv, wv = wr.alloc (.cells #[.int .i64 ((pjE n j 0 : Nat) : Int), .int .i64 ((pjE n j 1 : Nat) : Int), .int .i64 ((pjE n j 2 : Nat) : Int)] 54) := ⟨_, rfl⟩
          have HBv := Lib.hid (show Below wr.heap.size wr wv from by rw [hwv]; exact below_boxed wr _)
          have hsv : wr.heap.size + 1 ≤ wv.heap.size := by rw [hwv]; simp
          rw [← hwv] at HVc
          have HWv := Lib.hid hwv
          clear hwv
          obtain ⟨wz, rfl⟩ : ∃ wz, wz = wr := ⟨_, rfl⟩
          go_wp2
          rw [← HWv.out]
          clear hv0 hv1 hv2
          go_loopw [13, 47] (fun u v wr => ∃ c : Nat, c ≤ 3 ∧ v = .int .i64 c ∧ u = .int .i64 ((pjD p k poly n i j c : Nat) : Int) ∧ Hid (Below wv.heap.size wv wr)) (fun _ v _ => 3 - (intOf v).toNat)
          case atStart => exact ⟨0, by omega, rfl, rfl, Lib.hid (Below.refl _ _)⟩
          case round =>
            obtain ⟨c, hc, rfl, rfl, HBx⟩ := hrel
            have hszx := HBx.out.size
            have HBy := Lib.hid (HBw.out.trans ((HBv.out.trans (HBx.out.mono (by omega))).mono (by have := HBw.out.size; omega)))
            by_cases hc3 : c < 3
            · have hc0 : (0 : Int) ≤ (c : Int) := by omega
              have hc1' : (c : Int) < 3 := by omega
              have HXy := Lib.hid (HX3.out.below HBy.out)
              have hlw := HXy.out.lt
              have hcu : wr.cell? ⟨wq.heap.size, c, none⟩ = some (.int .i64 ((pjE n i c : Nat) : Int)) := by
                have h1 := HUc.out c hc3
                rw [HUn.out c hc3] at h1
                have h2 := (HB5.out.cell (p := ⟨wq.heap.size, c, none⟩) (show wq.heap.size < wo.heap.size by omega)).trans h1
                exact ((HBv.out.trans (HBx.out.mono (by omega))).cell (p := ⟨wq.heap.size, c, none⟩) (show wq.heap.size < wz.heap.size by omega)).trans h2
              have hcv : wr.cell? ⟨wz.heap.size, c, none⟩ = some (.int .i64 ((pjE n j c : Nat) : Int)) := by
                have h1 := HVc.out c hc3
                rw [HVn.out c hc3] at h1
                exact (HBx.out.cell (p := ⟨wz.heap.size, c, none⟩) (show wz.heap.size < wv.heap.size by omega)).trans h1
              have hS := (show wr.cell? ⟨w1.heap.size, 0, none⟩ = _ ∧ wr.cell? ⟨w1.heap.size, 1, none⟩ = _ ∧ wr.cell? ⟨w1.heap.size, 2, none⟩ = _ ∧ wr.cell? ⟨wq.heap.size, c, none⟩ = _ ∧ wr.cell? ⟨wz.heap.size, c, none⟩ = _ from ⟨HXy.out.c0, HXy.out.c1, HXy.out.c2, hcu, hcv⟩)
              have hq1 : wq.heap.size < wr.heap.size := by omega
              have hq2' : wz.heap.size < wr.heap.size := by omega
              have hEi := (HEn.out i c hiM hc3).2
              have hEj := (HEn.out j c hjM hc3).2
              have HMv := Lib.hid (HMu.out wr.drew A1 c1 ((HP3.out.below HBy.out).drewN 1) (pjE n i c) (pjE n j c) (by omega) (by omega))
              have HDs := Lib.hid (show pjD p k poly n i j (c + 1) = cmbF p k 1 (pjD p k poly n i j c) (mulF p k poly (pjE n i c) (pjE n j c)) from rfl)
              have hml := HLt.out (pjE n i c) (pjE n j c)
              have hsl := HLd.out i j c
              have HCv := Lib.hid (fun W => HCo.out W A1 c1 (pjD p k poly n i j c) (mulF p k poly (pjE n i c) (pjE n j c)) hsl hml)
              rw [← HDs.out] at HCv
              generalize mulF p k poly (pjE n i c) (pjE n j c) = t at *
              generalize pjE n i c = a at *
              generalize pjE n j c = b at *
              obtain ⟨sm, hsm⟩ : ∃ sm, sm = pjD p k poly n i j c := ⟨_, rfl⟩
              rw [← hsm] at HCv hsl ⊢
              have HSn := Lib.hid (show pjD p k poly n i j (c + 1) = pjD p k poly n i j (c + 1) from rfl)
              obtain ⟨s2, hs2n⟩ : ∃ s2, s2 = pjD p k poly n i j (c + 1) := ⟨_, rfl⟩
              rw [← hs2n] at HCv
              have HS2n := Lib.hid hs2n
              clear hcu hcv hEi hEj hsm hs2n HSn
              go_wp2
              go_region_held3 (fun w' => w'.cell? ⟨w1.heap.size, 0, none⟩ = some (.int .i64 (p : Int)) ∧ w'.cell? ⟨w1.heap.size, 1, none⟩ = some (.int .i64 (k : Int)) ∧ w'.cell? ⟨w1.heap.size, 2, none⟩ = some (.slice A1 (k + 1) c1) ∧ w'.cell? ⟨wq.heap.size, c, none⟩ = some (.int .i64 (a : Int)) ∧ w'.cell? ⟨wz.heap.size, c, none⟩ = some (.int .i64 (b : Int))) (first | exact hS | exact hS5 | exact hS6)
                (first | (go_at_call 30; (with_reducible refine (HMv.out).mono ?_); rintro e w5 ⟨rfl, hb5⟩; have hS5 := keep5 hb5 hlw hq1 hq2' hS; have hz5 := hb5.size) | (go_at_call 25; (with_reducible refine (HCv.out w5).mono ?_); rintro e w6 ⟨rfl, hb6⟩; have hS6 := keep5 (hb6.mono hz5) hlw hq1 hq2' hS5))
              have HB6 := Lib.hid (show Below wv.heap.size wv w6 from HBx.out.drew.trans ((hb5.trans (hb6.mono hz5)).mono hszx))
              clear hb5 hb6 hS hS5 hS6 hz5
              go_wp2
              go_roundw
              case rel => exact ⟨c + 1, by omega, by go_num, by rw [HS2n.out], HB6⟩
              case measure => simp [intOf] <;> omega
            · obtain rfl : c = 3 := by omega
              have HOz := Lib.hid (HO5.out.below (HBv.out.trans (HBx.out.mono (by omega))))
              have HBz := Lib.hid (HB5.out.trans ((HBv.out.trans (HBx.out.mono (by omega))).mono hsz5))
              have hszz := HBz.out.size
              have HEd := Lib.hid (HDd.out i j)
              obtain ⟨t, ht⟩ : ∃ t, t = pjD p k poly n i j 3 := ⟨_, rfl⟩
              rw [← ht] at HEd ⊢
              by_cases h0 : t = 0
              · have HNx := Lib.hid (pjL_hit (d := d) (i := i) (m := j) (by rw [HEd.out]; exact h0))
                subst h0
                clear ht
                go_wp2_with (at_builtin; refine wpI_append rfl _ _ rfl wo.heap.size _ _ _ (pjL d i j) (j : Int) wr.heap.size rfl rfl HS5.out (HOz.out.alloc (.cells #[.int .i64 (j : Int)] 2)) (World.cell?_alloc_at _ _ _ _ rfl) (by omega) (by simp; omega) ?_; intro A7 c7 w7 ho7 hg7 ha7)
                have HB7 := Lib.hid (show Below wo.heap.size wo w7 from (HBz.out.alloc hszz (.cells #[.int .i64 (j : Int)] 2)).trans (below_blk (HOz.out.alloc (.cells #[.int .i64 (j : Int)] 2)) hg7 (Nat.le_refl _) (by simp; omega)))
                have HO7 := Lib.hid (show OwnI w7 wo.heap.size A7 c7 (pjL d i (j + 1)) from by rw [HNx.out]; exact ho7)
                have HS7 := Lib.hid (show (pjL d i (j + 1)).length = s + 1 from by rw [HNx.out, List.length_append, HS5.out]; rfl)
                clear ho7 hg7 ha7
                go_wp2
                go_roundw
                case rel => exact ⟨j + 1, s + 1, A7, c7, by omega, by go_num, rfl, by omega, HS7, HO7, HB7⟩
                case measure => simp [intOf] <;> omega
              · have HNx := Lib.hid (pjL_miss (d := d) (i := i) (m := j) (by rw [HEd.out]; exact h0))
                have h0d : ((t : Int) == 0) = false := by simp; omega
                have HO7 := Lib.hid (show OwnI wr wo.heap.size A5 c5 (pjL d i (j + 1)) from by rw [HNx.out]; exact HOz.out)
                have HS7 := Lib.hid (show (pjL d i (j + 1)).length = s from by rw [HNx.out]; exact HS5.out)
                clear ht h0
                go_wp2
                go_roundw
                case rel => exact ⟨j + 1, s, A5, c5, by omega, by go_num, rfl, by omega, HS7, HO7, HBz⟩
                case measure => simp [intOf] <;> omega
        · obtain rfl : j = M := by omega
          have hszo := HBo.out.size
          have HBq := Lib.hid (HBo.out.trans (HB5.out.mono hszo))
          have HOl := Lib.hid (HO5.out.lower (lo' := wq.heap.size) hszo)
          have HOx := Lib.hid ((HO.out.below HBq.out).alloc (.cells #[.slice A5 s c5] 37))
          have HIx := Lib.hid ((HOl.out.lower (lo' := w3.heap.size) hszr).alloc (.cells #[.slice A5 s c5] 37))
          have HAp := Lib.hid (later_apart HO.out HOl.out)
          have HLb := Lib.hid (pjB_len d j i)
          go_wp2_with (at_builtin; refine wpM_append rfl _ _ rfl w3.heap.size _ _ _ R' (pjB d j i) A5 s c5 (pjL d i j) wr.heap.size rfl rfl HLb.out HS5.out HOx.out HIx.out HAp.out (World.cell?_alloc_at _ _ _ _ rfl) (by omega) (by have := HBw.out.size; simp; omega) ?_; intro A9 c9 R9 w9 ho9 hg9 ha9)
          have HB9 := Lib.hid ((HBw.out.alloc HBw.out.size (.cells #[.slice A5 s c5] 37)).trans (below_blkM HOx.out hg9 (Nat.le_refl _) (by have := HBw.out.size; simp; omega)))
          have HO9 := Lib.hid (show OwnM w9 w3.heap.size A9 c9 R9 (pjB d j (i + 1)) from by rw [pjB_succ]; exact ho9)
          clear ho9 hg9 ha9
          go_wp2
          go_roundw
          case rel => exact ⟨i + 1, _, _, _, by omega, by go_num, rfl, HO9, HB9⟩
          case measure => simp [intOf] <;> omega
    · obtain rfl : i = M := by omega
      have HSk := Lib.hid (HSo.out wr A' i c' R' HO.out.rd (pjB_len d i i))
      have HZr := Lib.hid (HZ3.out.step (lo := w3.heap.size) (by omega) HB.out)
      have HBr := Lib.hid (HB3.out.trans (HB.out.mono HB3.out.size))
      go_wp2_with fail
      refine (sizeT_c _ _ _ _).mono ?_
      rintro e w' ⟨rfl, rfl⟩
      go_wp2_with fail
      refine (HSk.out).mono ?_
      rintro e w9 ⟨⟨A9, n9, c9, R9, rfl, hn9, ho9⟩, hb9⟩
      have HZ9 := Lib.hid (HZr.out.step (lo := wr.heap.size) (by omega) hb9)
      have HB9 := Lib.hid (HBr.out.trans (hb9.mono HBr.out.size))
      have HO9 := Lib.hid (show OwnM w9 (w.heap.size + 1) A9 c9 R9 lst from ho9.lower (by omega))
      have HN9 := Lib.hid hn9
      clear hb9 ho9 hn9
      have rz := HZ9.out
      have z0 := rz.c0
      have z1 := rz.c1
      have y0 := rz.f0
      have y1 := rz.f1
      clear rz
      go_wp2
      obtain ⟨r0, r1⟩ := HZ9.out.read (.int .i64 (i : Int)) (.slice A9 n9 c9)
      refine bodyPost_ret (v := .tuple #[.agg #[.int .i64 (i : Int), .slice A9 n9 c9], .int .i64 0]) (by simp [results, Try.results17, go_sem, r0, r1]) rfl ⟨⟨A9, n9, c9, R9, rfl, HN9.out, own_set2 HO9.out (by omega) _ _⟩, below_set2 HB9.out (by omega)⟩
end Go.Proofs.Ytbbaeopobnpnmaa
