/-
  DesignOfSchedule of the reference. Conditions: those of each theorem.
-/
import Derived.Test.YtamklliaibfljaaDsI
import Derived.Test.YtamklliaibfljaaSchS
import Derived.Test.YtamklliaibfljaaIns2
import Derived.Test.YtamklliaibfljaaSame0
namespace Go.Proofs.Ytamklliaibfljaa
open Go.RowKit
set_option linter.unusedVariables false
set_option linter.unusedSimpArgs false

set_option maxRecDepth 100000 in
set_option maxHeartbeats 8000000 in
theorem specDesignOfSchedule_c (w : World) (n : Int) (hn64 : -9223372036854775808 ≤ n ∧ n ≤ 9223372036854775807) (A : Option Addr) (q c : Nat) (S : Spine3) (x : List (List (List Int))) (hr : RdL w A c S x) (hq : x.length = q) (hw : WfT x) (hz : (q : Int) + (wgt x : Nat) ≤ 1048576) :
    Calls Try.prog 7 #[.int .i64 n, .slice A q c] w (PostDMC w (dsP n x) (dsX n x) (dsM n x) (dsO n x)) := by
  have hzD := zeroD
  obtain ⟨wa, hwa⟩ : ∃ wa, wa = w.alloc (.cells #[.int .i64 0, .slice none 0 0] 26) := ⟨_, rfl⟩
  have hZa : RBox wa w.heap.size := by rw [hwa]; exact RBox.made w 26
  have hBa : Below w.heap.size w wa := by rw [hwa]; exact below_boxed w (.cells #[.int .i64 0, .slice none 0 0] 26)
  have hsa : w.heap.size + 1 ≤ wa.heap.size := by rw [hwa]; simp
  have HZa := Lib.hid hZa
  have HBa := Lib.hid hBa
  have hV := l14Ok_c wa n hn64 A q c S x (hr.below hBa) hq hz
  have HWa := Lib.hid hwa
  rcases hs : schB n x with _ | _
  · have h1 : dsO n x = 1 := if_neg (by rw [hs]; simp)
    rw [show dsP n x = 0 from if_neg (by omega), show dsX n x = [] from if_neg (by omega), show dsM n x = [] from if_neg (by omega), h1]
    rw [hs] at hV
    have HV := Lib.hid hV
    clear hV hs h1 hwa hZa hBa hr hq hw hz
    go_enter Try.func7, Try.ntmps7
    go_wp2_with fail
    rw [← HWa.out]
    refine (HV.out).mono ?_
    rintro e w2 ⟨rfl, hb2⟩
    have HZ2 := Lib.hid (HZa.out.step (lo := wa.heap.size) (by omega) hb2)
    have HB2 := Lib.hid (HBa.out.trans (hb2.mono HBa.out.size))
    have hs2 : w.heap.size + 1 ≤ w2.heap.size := by have := hb2.size; omega
    clear hb2
    have rz := HZ2.out
    have z0 := rz.c0
    have z1 := rz.c1
    have y0 := rz.f0
    have y1 := rz.f1
    clear rz
    go_wp2
    obtain ⟨r0, r1⟩ := HZ2.out.read (.int .i64 0) (.slice none 0 0)
    refine bodyPost_ret (v := .tuple #[.agg #[.int .i64 0, .slice none 0 0], .slice none 0 0, .int .i64 1]) (by simp [results, Try.results7, go_sem, r0, r1]) rfl ⟨⟨none, 0, 0, fun _ => (none, 0), none, 0, 0, fun _ => (none, 0), w.heap.size, rfl, rfl, rfl, Nat.le_refl _, by first | exact HB2.out.size | (simp [World.setCell]; omega), InM.nil_ _ _ _ _, InM.nil_ _ _ _ _⟩, by first | exact HB2.out | exact below_set2 HB2.out (by omega)⟩
  have hS : schOk n x := of_decide_eq_true hs
  have hrO := hS.2.1
  have hcnt := (cnt_allMet hS.1.1 hS.2.1).2 hS.2.2
  obtain ⟨N, rfl⟩ : ∃ N : Nat, n = (N : Int) := ⟨n.toNat, by have := hS.1; omega⟩
  have hN32 : N ≤ 32 := by have := hS.1; omega
  have hN2 : 2 ≤ N := by have := hS.1; omega
  have hNN : N * (N - 1) ≤ 992 := Nat.mul_le_mul (show N ≤ 32 by omega) (show N - 1 ≤ 31 by omega)
  have hpr : (N : Int) * ((N : Int) - 1) = ((N * (N - 1) : Nat) : Int) := by rw [Int.natCast_mul]; congr 1; omega
  obtain ⟨T, hT⟩ : ∃ T, T = cntR x x.length := ⟨_, rfl⟩
  rw [← hT, hpr, Int.tdiv_eq_ediv_of_nonneg (by omega)] at hcnt
  have hT496 : T ≤ 496 := by omega
  have hll := dsL_len (x := x) (Nat.le_refl _)
  rw [← hT] at hll
  obtain ⟨N1, hN1⟩ : ∃ N1 : Nat, N1 = N - 1 := ⟨_, rfl⟩
  obtain ⟨D, hD⟩ : ∃ D : Nat, D = N * (N - 1) := ⟨_, rfl⟩
  have hs1 : (N : Int) - 1 = (N1 : Int) := by omega
  have hs2 : (N : Int) * (N1 : Int) = (D : Int) := by rw [hD, ← hs1]; exact hpr
  have hs3 : (D : Int) / 2 = (T : Int) := by rw [hD]; exact hcnt.symm
  have hD992 : D ≤ 992 := by omega
  have hN31 : N1 ≤ 31 := by omega
  rw [hs] at hV
  have HV := Lib.hid hV
  by_cases h128 : (dsL x x.length).length ≤ 128
  rotate_left
  · have h1 : dsO (N : Int) x = 5 := (if_pos hs).trans (if_neg h128)
    rw [show dsP (N : Int) x = 0 from if_neg (by omega), show dsX (N : Int) x = [] from if_neg (by omega), show dsM (N : Int) x = [] from if_neg (by omega), h1]
    have hTg : 128 < T := by omega
    have hTi : (128 : Int) < (T : Int) := by omega
    clear hV hs h1 hwa hZa hBa hr hq hw hz hS hrO hcnt hll h128 hpr hT hD hN1 hNN
    go_enter Try.func7, Try.ntmps7
    go_wp2_with fail
    rw [← HWa.out]
    refine (HV.out).mono ?_
    rintro e w2 ⟨rfl, hb2⟩
    have HZ2 := Lib.hid (HZa.out.step (lo := wa.heap.size) (by omega) hb2)
    have HB2 := Lib.hid (HBa.out.trans (hb2.mono HBa.out.size))
    have hs9 : w.heap.size + 1 ≤ w2.heap.size := by have := hb2.size; omega
    clear hb2
    have rz := HZ2.out
    have z0 := rz.c0
    have z1 := rz.c1
    have y0 := rz.f0
    have y1 := rz.f1
    clear rz
    go_wp2
    obtain ⟨r0, r1⟩ := HZ2.out.read (.int .i64 0) (.slice none 0 0)
    refine bodyPost_ret (v := .tuple #[.agg #[.int .i64 0, .slice none 0 0], .slice none 0 0, .int .i64 5]) (by simp [results, Try.results7, go_sem, r0, r1]) rfl ⟨⟨none, 0, 0, fun _ => (none, 0), none, 0, 0, fun _ => (none, 0), w.heap.size, rfl, rfl, rfl, Nat.le_refl _, by first | exact HB2.out.size | (simp [World.setCell]; omega), InM.nil_ _ _ _ _, InM.nil_ _ _ _ _⟩, by first | exact HB2.out | exact below_set2 HB2.out (by omega)⟩
  have h1 : dsO (N : Int) x = 0 := (if_pos hs).trans (if_pos h128)
  rw [show dsP (N : Int) x = (N : Int) from if_pos h1, show dsX (N : Int) x = dsB x from if_pos h1, show dsM (N : Int) x = dsT x x.length from if_pos h1, h1]
  have hT128 : T ≤ 128 := by omega
  have hTi : ¬ (128 : Int) < (T : Int) := by omega
  have hbl : (dsB x).length = T := by rw [(dsB_perm x).length_eq]; exact hll
  have HSo := Lib.hid (fun (W : World) (A' : Option Addr) (c' : Nat) (R' : Spine) (hr' : RdM W A' c' R' (dsL x x.length)) => l10Sort_c W A' T c' R' (dsL x x.length) hr' hll (by
    have := nilCap_of_rows hr' (fun k hk => by rw [ds_two hrO (by rw [row_eq hk]; exact List.getElem_mem _)]; omega)
    rwa [hll] at this) (by omega) (fun k hk => by rw [ds_two hrO (by rw [row_eq (by rw [hll]; exact hk)]; exact List.getElem_mem _)]; omega))
  have HKa := Lib.hid (fun (r : Nat) (hr : r < x.length) => by have := dsK_all hrO hr; rwa [hbl] at this)
  have HDl := Lib.hid (fun (k : Nat) (hk : k ≤ x.length) => show (dsL x k).length ≤ 128 ∧ ∀ r, r < k → (pln x r).length ≤ 128 from by
    have h8 : ∀ j, j ≤ x.length → cntR x j ≤ 128 := fun j hj => by
      have : ∀ i, cntR x j ≤ cntR x (j + i) := fun i => by
        induction i with
        | zero => exact Nat.le_refl _
        | succ i ih => rw [← Nat.add_assoc, cntR]; omega
      have h1 := this (x.length - j)
      rw [show j + (x.length - j) = x.length by omega] at h1
      omega
    refine ⟨by rw [dsL_len hk]; exact h8 k hk, fun r hr => ?_⟩
    have := h8 (r + 1) (by omega)
    rw [cntR] at this; omega)
  have HOne := Lib.hid (fun (r : Nat) (hr : r < x.length) (j i : Nat) (hi : i ≤ (pln x r).length) => show (dsKi x r j i).length ≤ 1 from by
    rcases dsKi_one hrO hr j i hi with ⟨e, _⟩ | ⟨e, _⟩ <;> rw [e] <;> simp)
  have HR := Lib.hid hr
  have HQ := Lib.hid hq
  have HBl := Lib.hid hbl
  rw [hq] at HSo ⊢
  have hq20 : q ≤ 1048576 := by omega
  clear hV hs h1 hwa hZa hBa hr hq hw hz hS hrO hcnt hll h128 hpr hT hD hN1 hNN hbl
  go_enter Try.func7, Try.ntmps7
  go_wp2_with fail
  rw [← HWa.out]
  refine (HV.out).mono ?_
  rintro e w2 ⟨rfl, hb2⟩
  have HZ2 := Lib.hid (HZa.out.step (lo := wa.heap.size) (by omega) hb2)
  have HB2 := Lib.hid (HBa.out.trans (hb2.mono HBa.out.size))
  have hs9 : w.heap.size + 1 ≤ w2.heap.size := by have := hb2.size; omega
  have HR2 := Lib.hid (HR.out.below (HBa.out.trans (hb2.mono HBa.out.size)))
  have HO0 := Lib.hid (show CatM w2 (w2.alloc (.cells #[] 45)) (some ⟨w2.heap.size, 0, none⟩) 0 (fun _ => (none, 0)) (dsL x 0) from by
    rw [dsL_zero]
    exact ⟨(OwnM.lit0 w2 (Nat.le_refl _) (fun _ => (none, 0))).own, fun k hk => absurd hk (by simp)⟩)
  have HD0 := Lib.hid (show (dsL x 0).length = 0 from by rw [dsL_zero]; rfl)
  have HEb0 := Lib.hid ((Below.refl w2.heap.size w2).alloc (Nat.le_refl _) (.cells #[] 45))
  clear hb2
  go_wp2
  clear hs1 hs2 hs3 hTi
  go_loopw [7, 8] (fun o v wr => ∃ (k t : Nat) (A' : Option Addr) (c' : Nat) (R' : Spine), k ≤ q ∧ v = .int .i64 k ∧ o = .slice A' t c' ∧ t ≤ 128 ∧ Hid ((dsL x k).length = t) ∧ Hid (CatM w2 wr A' c' R' (dsL x k)) ∧ Hid (Below w2.heap.size w2 wr)) (fun _ v _ => q - (intOf v).toNat)
  case atStart => exact ⟨0, 0, _, _, _, by omega, rfl, rfl, by omega, HD0, HO0, HEb0⟩
  case round =>
    obtain ⟨k, t, A', c', R', hk, rfl, rfl, ht, HT, HO, HB⟩ := hrel
    have hsz := HB.out.size
    by_cases hlt : k < q
    · have hkx : k < x.length := by rw [HQ.out]; exact hlt
      obtain ⟨b, off, e, hb, hcc0⟩ := HR2.out.at_ k hkx
      have hcc := (HB.out.cell (p := ⟨b, off + k, none⟩) hb).trans hcc0
      have hsu : (dsL x (k + 1)).length = t + (pln x k).length := by rw [dsL_succ hkx, List.length_append, HT.out]
      have hq1 : t + (pln x k).length ≤ 128 := by rw [← hsu]; exact (HDl.out (k + 1) hkx).1
      have HSu := Lib.hid hsu
      have HRw := Lib.hid (HR2.out.rows k hkx)
      have HRk := Lib.hid ((HR2.out.below HB.out).rows k hkx)
      have HLk := Lib.hid (show (pln x k).length = (pln x k).length from rfl)
      have HDs := Lib.hid (dsL_succ hkx)
      have HOv := Lib.hid (show wr.ownsRow w2.heap.size 45 1 (.slice A' t c') t (valsM R' (dsL x k)) from by have := HO.out.1; rwa [HT.out] at this)
      have hk0 : (0 : Int) ≤ (k : Int) := by omega
      have hk2 : (k : Int) < (q : Int) := by omega
      subst e
      clear hcc0 hsu
      generalize hpk : pln x k = pk at *
      go_wp2_with (at_builtin; refine wpA_append rfl _ _ rfl w2.heap.size A' c' t (valsM R' (dsL x k)) (S k).1 pk.length (S k).2.1 (S k).2.2 pk rfl rfl HOv.out HRk.out HLk.out (by omega) hsz ?_; intro A8 c8 w8 ho8 hg8 ha8)
      have hb8 := below_blkV HOv.out hg8 (Nat.le_refl _) hsz
      have HB8 := Lib.hid (show Below w2.heap.size w2 w8 from HB.out.trans hb8)
      have HO8 := Lib.hid (show CatM w2 w8 A8 c8 (joinS R' (S k).2.2 (dsL x k).length) (dsL x (k + 1)) from by
        rw [HDs.out]
        exact HO.out.step (fun j hj => HRw.out.rows j hj) HT.out HLk.out ho8)
      have HS8 := Lib.hid (show (dsL x (k + 1)).length = t + pk.length from HSu.out)
      clear ho8 hg8 ha8 hb8
      go_wp2
      go_roundw
      case rel => exact ⟨k + 1, t + pk.length, A8, c8, _, by omega, by go_num, rfl, by omega, HS8, HO8, HB8⟩
      case measure => simp [intOf]; omega
    · obtain rfl : q = k := by omega
      have hrd := HO.out.rd HB.out
      have htT : T = t := by rw [← HT.out, ← HBl.out, (dsB_perm x).length_eq, HQ.out]
      subst htT
      have HSk := Lib.hid (HSo.out wr A' c' _ hrd)
      have HZr := Lib.hid (HZ2.out.step (lo := w2.heap.size) (by omega) HB.out)
      have HBr := Lib.hid (HB2.out.trans (HB.out.mono HB2.out.size))
      clear hrd
      go_wp2_with fail
      refine (HSk.out).mono ?_
      rintro e w4 ⟨⟨A4, n4, c4, R4, rfl, hn4, ho4⟩, hb4⟩
      have hs4 : w.heap.size + 1 ≤ w4.heap.size := by have := hb4.size; omega
      have HZ4 := Lib.hid (HZr.out.step (lo := wr.heap.size) (by omega) hb4)
      have HB4 := Lib.hid (HBr.out.trans (hb4.mono HBr.out.size))
      have HO4 := Lib.hid (show InM w4 (w.heap.size + 1) w4.heap.size A4 c4 R4 (dsB x) from by
        have h9 : sortLL (dsL x x.length) = dsB x := rfl
        rw [HQ.out] at h9
        rw [← h9]; exact (ho4.lower (by omega)).in_)
      obtain rfl : n4 = T := by rw [← hn4, ← HBl.out]; show (sortLL _).length = (sortLL _).length; rw [HQ.out]
      obtain ⟨w5, hw5⟩ : ∃ w5, w5 = w4.alloc (.cells #[.int .i64 (N : Int), .slice A4 n4 c4] 26) := ⟨_, rfl⟩
      have hb45 : Below w4.heap.size w4 w5 := by rw [hw5]; exact (Below.refl _ _).alloc (Nat.le_refl _) _
      have hX5 : BoxD w5 w4.heap.size (N : Int) A4 n4 c4 := by rw [hw5]; exact BoxD.made _ _ _ _ _ _
      have hs5 : w4.heap.size + 1 ≤ w5.heap.size := by rw [hw5]; simp
      have HZ5 := Lib.hid (HZ4.out.step (lo := w4.heap.size) (by omega) hb45)
      have HB5 := Lib.hid (HB4.out.trans (hb45.mono HB4.out.size))
      have HO5 := Lib.hid (HO4.out.step (w' := w5) (fun k _ h2 => hb45.block k h2))
      have HX5 := Lib.hid hX5
      have HE0 := Lib.hid (show OwnM (w5.alloc (.cells #[] 45)) w5.heap.size (some ⟨w4.heap.size + 1, 0, none⟩) 0 (fun _ => (none, 0)) (dsT x 0) from by
        rw [show w4.heap.size + 1 = w5.heap.size by rw [hw5]; simp]
        exact OwnM.lit0 w5 (Nat.le_refl w5.heap.size) (fun _ => (none, 0)))
      have HEb5 := Lib.hid ((Below.refl w5.heap.size w5).alloc (Nat.le_refl _) (.cells #[] 45))
      clear hb4 ho4 hn4 hb45 hX5
      go_wp2
      rw [← hw5]
      clear hw5
      go_loopw [10, 11, 12, 13, 14] (fun o v _ _ _ wr => ∃ (r : Nat) (A' : Option Addr) (c' : Nat) (R' : Spine), r ≤ q ∧ v = .int .i64 r ∧ o = .slice A' r c' ∧ Hid (OwnM wr w5.heap.size A' c' R' (dsT x r)) ∧ Hid (Below w5.heap.size w5 wr)) (fun _ v _ _ _ _ => q - (intOf v).toNat)
      case atStart => exact ⟨0, _, _, _, Nat.zero_le _, rfl, rfl, HE0, HEb5⟩
      case round =>
        clear HB HO
        obtain ⟨r, A', c', R', hr, rfl, rfl, HO, HB⟩ := hrel
        have hsz := HB.out.size
        by_cases hrq : r < q
        · have hrx : r < x.length := by rw [HQ.out]; exact hrq
          obtain ⟨b, off, e, hb, hcl⟩ := HR.out.at_ r hrx
          have HBw := Lib.hid (HB5.out.trans (HB.out.mono HB5.out.size))
          obtain ⟨m, hm⟩ : ∃ m, m = (pln x r).length := ⟨_, rfl⟩
          rw [← hm] at hcl
          have HM := Lib.hid hm
          have HCl := Lib.hid hcl
          have HBb := Lib.hid hb
          have HRr := Lib.hid (HR.out.rows r hrx)
          have HRx := Lib.hid hrx
          have hr0 : (0 : Int) ≤ (r : Int) := by omega
          have hr1 : (r : Int) < (q : Int) := by omega
          have hm128 : m ≤ 128 := by rw [hm]; exact (HDl.out x.length (Nat.le_refl _)).2 r hrx
          subst e
          clear hcl hm hb hrx
          generalize (S r).1 = Ar at *
          generalize (S r).2.1 = cr at *
          generalize (S r).2.2 = Rr at *
          have HE := Lib.hid (show OwnI (wr.alloc (.cells #[] 2)) wr.heap.size (some ⟨wr.heap.size, 0, none⟩) 0 (dsK x r 0) from OwnI.lit0 wr (Nat.le_refl wr.heap.size))
          have HEb := Lib.hid ((Below.refl wr.heap.size wr).alloc (Nat.le_refl _) (.cells #[] 2))
          have HK0 := Lib.hid (show (dsK x r 0).length = 0 from rfl)
          obtain ⟨wo, rfl⟩ : ∃ wo, wo = wr := ⟨_, rfl⟩
          go_wp2
          go_loopw [12, 13, 14] (fun o v _ wr => ∃ (j s : Nat) (A6 : Option Addr) (c6 : Nat), j ≤ n4 ∧ v = .int .i64 j ∧ o = .slice A6 s c6 ∧ s ≤ j ∧ Hid ((dsK x r j).length = s) ∧ Hid (OwnI wr wo.heap.size A6 c6 (dsK x r j)) ∧ Hid (Below wo.heap.size wo wr)) (fun _ v _ _ => n4 - (intOf v).toNat)
          case atStart => exact ⟨0, 0, _, _, Nat.zero_le _, rfl, rfl, Nat.le_refl _, HK0, HE, HEb⟩
          case round =>
            obtain ⟨j, s, A6, c6, hj, rfl, rfl, hs, HS, HO6, HB6⟩ := hrel
            have hsz6 := HB6.out.size
            have hB5r := Lib.hid (HB.out.trans (HB6.out.mono hsz))
            have hx5 := HX5.out.step (lo := w5.heap.size) (by omega) hB5r.out
            have hc1 := hx5.c1
            clear hx5
            by_cases hjn : j < n4
            · have HBv := Lib.hid (HBw.out.trans (HB6.out.mono HBw.out.size))
              have hccr := (HBv.out.cell (p := ⟨b, off + r, none⟩) HBb.out).trans HCl.out
              have HI0 := Lib.hid (show OwnI wr wo.heap.size A6 c6 (dsK x r j ++ dsKi x r j 0) from by rw [show dsKi x r j 0 = [] from rfl, List.append_nil]; exact HO6.out)
              have HS0 := Lib.hid (show (dsK x r j ++ dsKi x r j 0).length = s from by rw [show dsKi x r j 0 = [] from rfl, List.append_nil]; exact HS.out)
              have hj0 : (0 : Int) ≤ (j : Int) := by omega
              have hj1 : (j : Int) < (n4 : Int) := by omega
              have hjB : j < (dsB x).length := by rw [HBl.out]; exact hjn
              obtain ⟨g5, eg5, _, hg5, hc5, _⟩ := HO5.out.own.at_ hjB
              subst eg5
              have HC5 := Lib.hid hc5
              have HRj := Lib.hid (HO5.out.own.rows j hjB).rd
              clear hc5 hjB
              go_wp2
              clear hccr hc1
              go_loopw [12, 14] (fun o v wr => ∃ (i s2 : Nat) (A7 : Option Addr) (c7 : Nat), i ≤ m ∧ v = .int .i64 i ∧ o = .slice A7 s2 c7 ∧ s2 ≤ j + 1 ∧ Hid ((dsK x r j ++ dsKi x r j i).length = s2) ∧ Hid (OwnI wr wo.heap.size A7 c7 (dsK x r j ++ dsKi x r j i)) ∧ Hid (Below wo.heap.size wo wr)) (fun _ v _ => m - (intOf v).toNat)
              case atStart => exact ⟨0, s, _, _, Nat.zero_le _, rfl, rfl, by omega, HS0, HI0, HB6⟩
              case round =>
                obtain ⟨i, s2, A7, c7, hi, rfl, rfl, hs2, HS7, HO7, HB7⟩ := hrel
                have hsz7 := HB7.out.size
                have HBu := Lib.hid (HBw.out.trans (HB7.out.mono HBw.out.size))
                have hccr := (HBu.out.cell (p := ⟨b, off + r, none⟩) HBb.out).trans HCl.out
                by_cases him : i < m
                · have hil : i < (pln x r).length := by rw [← HM.out]; exact him
                  have hB5u := Lib.hid (HB.out.trans (HB7.out.mono hsz))
                  have hx5 := HX5.out.step (lo := w5.heap.size) (by omega) hB5u.out
                  have hc1 := hx5.c1
                  obtain ⟨b2, off2, e2, hb2, hcl2⟩ := HRr.out.at_ i hil
                  have hcr2 := (HBu.out.cell (p := ⟨b2, off2 + i, none⟩) hb2).trans hcl2
                  have hcj := (hB5u.out.cell (p := ⟨g5, j, none⟩) hg5).trans HC5.out
                  have HSm := Lib.hid (fun (q' : Nat) => same0_c (wr.drewN q') ((HRj.out.below hB5u.out).drewN q') (((HRr.out.rows i hil).below HBu.out).drewN q') rfl rfl)
                  have hi0 : (0 : Int) ≤ (i : Int) := by omega
                  have hi1 : (i : Int) < (m : Int) := by omega
                  rw [e2] at hccr
                  have hs129 := HOne.out r HRx.out j (i + 1) hil
                  have HHit := Lib.hid (fun (e : row (dsB x) j = row (pln x r) i) => (show dsKi x r j (i + 1) = dsKi x r j i ++ [(j : Int)] from dsKi_hit e))
                  have HMis := Lib.hid (fun (e : row (dsB x) j ≠ row (pln x r) i) => (show dsKi x r j (i + 1) = dsKi x r j i from dsKi_miss e))
                  subst e2
                  clear hcl2 hx5
                  by_cases heq : row (dsB x) j = row (pln x r) i
                  · rw [decide_eq_true heq] at HSm
                    have HSt := Lib.hid (HHit.out heq)
                    have hsl : s2 ≤ j := by
                      have h1 := HS7.out
                      have h2 := HSt.out
                      rw [h2, List.length_append] at hs129
                      rw [List.length_append, HS.out] at h1
                      rw [List.length_singleton] at hs129
                      omega
                    generalize row (dsB x) j = rb at *
                    generalize row (pln x r) i = rp at *
                    clear heq HHit HMis hs129
                    go_wp2
                    go_quiet ((go_at_call 27; first | (with_reducible exact quiet_endN (HSm.out _)) | (with_reducible exact quiet_end0 (HSm.out _))))
                    have HO8 := Lib.hid (HO7.out.drewN nq)
                    have HB8 := Lib.hid (below_drewN HB7.out nq)
                    have hsz8 : wo.heap.size ≤ (wr.drewN nq).heap.size := hsz7
                    generalize wr.drewN nq = w8 at *
                    clear hccr hcr2 hcj hc1
                    have HO8a := Lib.hid (HO8.out.alloc (.cells #[.int .i64 (j : Int)] 2))
                    go_wp2_with (at_builtin; refine wpI_append rfl _ _ rfl wo.heap.size _ _ _ (dsK x r j ++ dsKi x r j i) (j : Int) w8.heap.size rfl rfl HS7.out HO8a.out (World.cell?_alloc_at _ _ _ _ rfl) (by omega) (by simp; omega) ?_; intro A9 c9 w9 ho9 hg9 ha9)
                    have HB9 := Lib.hid (show Below wo.heap.size wo w9 from (HB8.out.alloc hsz8 (.cells #[.int .i64 (j : Int)] 2)).trans (below_blk HO8a.out hg9 (Nat.le_refl _) (by simp; omega)))
                    have HO9 := Lib.hid (show OwnI w9 wo.heap.size A9 c9 (dsK x r j ++ dsKi x r j (i + 1)) from by rw [HSt.out, ← List.append_assoc]; exact ho9)
                    have HS9 := Lib.hid (show (dsK x r j ++ dsKi x r j (i + 1)).length = s2 + 1 from by rw [HSt.out, ← List.append_assoc, List.length_append, HS7.out]; rfl)
                    clear ho9 hg9 ha9
                    go_wp2
                    go_roundw
                    case rel => exact ⟨i + 1, s2 + 1, _, _, by omega, by go_num, rfl, by omega, HS9, HO9, HB9⟩
                    case measure => simp [intOf]; omega
                  · rw [decide_eq_false heq] at HSm
                    have HSt := Lib.hid (HMis.out heq)
                    generalize row (dsB x) j = rb at *
                    generalize row (pln x r) i = rp at *
                    clear heq HHit HMis hs129
                    go_wp2
                    go_quiet ((go_at_call 27; first | (with_reducible exact quiet_endN (HSm.out _)) | (with_reducible exact quiet_end0 (HSm.out _))))
                    have HO8 := Lib.hid (show OwnI (wr.drewN nq) wo.heap.size A7 c7 (dsK x r j ++ dsKi x r j (i + 1)) from by rw [HSt.out]; exact HO7.out.drewN nq)
                    have HS8 := Lib.hid (show (dsK x r j ++ dsKi x r j (i + 1)).length = s2 from by rw [HSt.out]; exact HS7.out)
                    have HB8 := Lib.hid (below_drewN HB7.out nq)
                    generalize wr.drewN nq = w8 at *
                    clear hccr hcr2 hcj hc1
                    go_wp2
                    go_roundw
                    case rel => exact ⟨i + 1, s2, _, _, by omega, by go_num, rfl, hs2, HS8, HO8, HB8⟩
                    case measure => simp [intOf]; omega
                · obtain rfl : m = i := by omega
                  have HDk := Lib.hid (show dsK x r j ++ dsKi x r j m = dsK x r (j + 1) from by rw [dsK_succ, HM.out])
                  have HO8 := Lib.hid (show OwnI wr wo.heap.size A7 c7 (dsK x r (j + 1)) from by rw [← HDk.out]; exact HO7.out)
                  have HS8 := Lib.hid (show (dsK x r (j + 1)).length = s2 from by rw [← HDk.out]; exact HS7.out)
                  go_wp2
                  clear hccr
                  go_roundw
                  case rel => exact ⟨j + 1, s2, _, _, by omega, by go_num, rfl, hs2, HS8, HO8, HB7⟩
                  case measure => simp [intOf]; omega
            · obtain rfl : n4 = j := by omega
              have HAll := Lib.hid (HKa.out r HRx.out)
              have HOf := Lib.hid (show OwnI wr wo.heap.size A6 c6 (dsC x r) from by rw [← HAll.out]; exact HO6.out)
              have HLc := Lib.hid (show (dsC x r).length = s from by rw [← HAll.out]; exact HS.out)
              have HBx := Lib.hid (HB.out.trans (HB6.out.mono hsz))
              have HOx := Lib.hid ((HO.out.below HB6.out).alloc (.cells #[.slice A6 s c6] 45))
              have HIx := Lib.hid ((HOf.out.lower (lo' := w5.heap.size) hsz).alloc (.cells #[.slice A6 s c6] 45))
              have HAp := Lib.hid (later_apart HO.out HOf.out)
              have HLt := Lib.hid (dsT_len x r)
              go_wp2_with (at_builtin; refine wpM_append rfl _ _ rfl w5.heap.size _ _ _ R' (dsT x r) A6 s c6 (dsC x r) wr.heap.size rfl rfl HLt.out HLc.out HOx.out HIx.out HAp.out (World.cell?_alloc_at _ _ _ _ rfl) (by omega) (by simp; omega) ?_; intro A9 c9 R9 w9 ho9 hg9 ha9)
              have HB9 := Lib.hid ((HBx.out.alloc HBx.out.size (.cells #[.slice A6 s c6] 45)).trans (below_blkM HOx.out hg9 (Nat.le_refl _) (by simp; omega)))
              have HO9 := Lib.hid (show OwnM w9 w5.heap.size A9 c9 R9 (dsT x (r + 1)) from by rw [dsT_succ]; exact ho9)
              clear ho9 hg9 ha9 hc1
              go_wp2
              go_roundw
              case rel => exact ⟨r + 1, _, _, _, by omega, by go_num, rfl, HO9, HB9⟩
              case measure => simp [intOf]; omega
        · obtain rfl : q = r := by omega
          have HLt := Lib.hid (dsT_len x q)
          have hx5 := HX5.out.step (lo := w5.heap.size) (by omega) HB.out
          have hc0 := hx5.c0
          have hc1 := hx5.c1
          have HZr := Lib.hid (HZ5.out.step (lo := w5.heap.size) (by omega) HB.out)
          have HBr := Lib.hid (HB5.out.trans (HB.out.mono HB5.out.size))
          have HDr := Lib.hid ((HO5.out.step (w' := wr) (fun k _ h2 => HB.out.block k (by omega))).higher (hi' := w5.heap.size) (by omega))
          have HCr := Lib.hid HO.out.in_
          clear hx5
          have rz := HZr.out
          have z0 := rz.c0
          have z1 := rz.c1
          have y0 := rz.f0
          have y1 := rz.f1
          clear rz
          go_wp2
          obtain ⟨r0, r1⟩ := HZr.out.read (.int .i64 (N : Int)) (.slice A4 n4 c4)
          have hle : w5.heap.size ≤ wr.heap.size := HB.out.size
          refine bodyPost_ret (v := .tuple #[.agg #[.int .i64 (N : Int), .slice A4 n4 c4], .slice A' q c', .int .i64 0]) (by simp [results, Try.results7, go_sem, r0, r1]) rfl ⟨⟨A4, n4, c4, R4, A', q, c', R', w5.heap.size, rfl, HBl.out, HLt.out, by omega, by simpa [World.setCell] using hle, (in_set2 HDr.out (by omega) _ _).lower (by omega), (in_set2 HCr.out (by omega) _ _).higher (by simp [World.setCell])⟩, below_set2 HBr.out (by omega)⟩
end Go.Proofs.Ytamklliaibfljaa
