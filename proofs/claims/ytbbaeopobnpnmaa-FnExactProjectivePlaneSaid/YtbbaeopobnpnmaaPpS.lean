/-
  ProjectivePlane of the reference. Conditions: those of each theorem.
-/
import Derived.Test.YtbbaeopobnpnmaaPpP
import Derived.Test.YtbbaeopobnpnmaaFldE
namespace Go.Proofs.Ytbbaeopobnpnmaa
open Go.RowKit
set_option linter.unusedVariables false
set_option linter.unusedSimpArgs false

theorem lit3I (w : World) (a b d : Int) {lo : Nat} (h : lo ≤ w.heap.size) : OwnI (w.alloc (.cells #[.int .i64 a, .int .i64 b, .int .i64 d] 2)) lo (some ⟨w.heap.size, 0, none⟩) 3 [a, b, d] :=
  World.ownsRow_lit (e := 2) (size := 1) w #[.int .i64 a, .int .i64 b, .int .i64 d] 3 h (by unfold maxLen; omega) rfl
theorem litM1 {w : World} {lo : Nat} {A : Option Addr} {c n : Nat} {xs : List Int} (hr : OwnI w lo A c xs) (hn : xs.length = n) (h : lo ≤ w.heap.size) : OwnM (w.alloc (.cells #[.slice A n c] 37)) lo (some ⟨w.heap.size, 0, none⟩) 1 (fun _ => (A, c)) [xs] := by
  subst hn
  exact ⟨World.ownsRow_lit (e := 37) (size := 1) w #[.slice A xs.length c] 1 h (by unfold maxLen; omega) rfl, fun k hk => by
    obtain rfl : k = 0 := by simp at hk; omega
    exact hr.alloc _, fun i j hij hj => by simp at hj; omega⟩

set_option maxHeartbeats 8000000 in
set_option maxRecDepth 10000 in
theorem l12Triples_c (w : World) (n : Nat) (hn : n ≤ 5) :
    Calls Try.prog 55 #[.int .i64 (n : Int)] w (PostM w (pjT n)) := by
  obtain ⟨wi, hwi⟩ : ∃ wi, wi = w.alloc (.cells #[.int .i64 0, .int .i64 0, .int .i64 1] 2) := ⟨_, rfl⟩
  have hbi : Below w.heap.size w wi := by rw [hwi]; exact below_boxed w _
  have hoi : OwnI wi w.heap.size (some ⟨w.heap.size, 0, none⟩) 3 [0, 0, 1] := by rw [hwi]; exact lit3I w 0 0 1 (Nat.le_refl _)
  have hsi : wi.heap.size = w.heap.size + 1 := by rw [hwi]; simp
  have H0 := Lib.hid (show OwnM (wi.alloc (.cells #[.slice (some ⟨w.heap.size, 0, none⟩) 3 3] 37)) w.heap.size (some ⟨wi.heap.size, 0, none⟩) 1 (fun _ => (some ⟨w.heap.size, 0, none⟩, 3)) (pjT0 0) from litM1 hoi rfl (by omega))
  have HB0 := Lib.hid (hbi.alloc hbi.size (.cells #[.slice (some ⟨w.heap.size, 0, none⟩) 3 3] 37))
  have HWi := Lib.hid hwi
  rw [hsi] at H0
  clear hwi hbi hoi hsi
  go_enter Try.func55, Try.ntmps55
  go_wp2
  rw [← HWi.out]
  go_loopw [3, 4] (fun o v wr => ∃ (m : Nat) (A' : Option Addr) (c' : Nat) (R' : Spine), m ≤ n ∧ v = .int .i64 m ∧ o = .slice A' (m + 1) c' ∧ Hid (OwnM wr w.heap.size A' c' R' (pjT0 m)) ∧ Hid (Below w.heap.size w wr)) (fun _ v _ => n - (intOf v).toNat)
  case atStart => exact ⟨0, _, _, _, Nat.zero_le _, rfl, rfl, H0, HB0⟩
  case round =>
    obtain ⟨m, A', c', R', hm, rfl, rfl, HO, HB⟩ := hrel
    have hsz := HB.out.size
    by_cases hmn : m < n
    · have hm1 : (m : Int) < (n : Int) := by omega
      have HL := Lib.hid (pjT0_len m)
      have hOw := (show Below w.heap.size w (wr.alloc (.cells #[.int .i64 (0), .int .i64 (1), .int .i64 ((m : Int))] 2)) from HB.out.alloc hsz _)
      have hOi := lit3I wr (0) (1) ((m : Int)) (Nat.le_refl wr.heap.size)
      have HAp := Lib.hid (later_apart HO.out hOi)
      have HOx := Lib.hid ((HO.out.alloc (.cells #[.int .i64 (0), .int .i64 (1), .int .i64 ((m : Int))] 2)).alloc (.cells #[.slice (some ⟨wr.heap.size, 0, none⟩) 3 3] 37))
      have HIx := Lib.hid ((hOi.lower (lo' := w.heap.size) hsz).alloc (.cells #[.slice (some ⟨wr.heap.size, 0, none⟩) 3 3] 37))
      have HBx := Lib.hid (hOw.alloc hOw.size (.cells #[.slice (some ⟨wr.heap.size, 0, none⟩) 3 3] 37))
      clear hOw hOi
      go_wp2_with (at_builtin; refine wpM_append rfl _ _ rfl w.heap.size _ _ _ R' (pjT0 m) (some ⟨wr.heap.size, 0, none⟩) 3 3 [(0), (1), ((m : Int))] (wr.heap.size + 1) rfl rfl HL.out rfl HOx.out HIx.out HAp.out (World.cell?_alloc_at _ _ _ _ (by simp)) (by omega) (by simp; omega) ?_; intro A7 c7 R7 w7 ho7 hg7 ha7)
      have HB7 := Lib.hid (show Below w.heap.size w w7 from HBx.out.trans (below_blkM HOx.out hg7 (Nat.le_refl _) (by simp; omega)))
      have HOp := Lib.hid ho7
      clear ho7 hg7 ha7
      have HO7 := Lib.hid (show OwnM w7 w.heap.size A7 c7 R7 (pjT0 (m + 1)) from by rw [pjT0_succ]; exact HOp.out)
      go_wp2
      go_roundw
      case rel => exact ⟨m + 1, A7, c7, R7, by omega, by go_num, rfl, HO7, HB7⟩
      case measure => simp [intOf] <;> omega
    · obtain rfl : m = n := by omega
      have HO1 := Lib.hid (show OwnM wr w.heap.size A' c' R' (pjT0 m ++ pjTy m 0) from by simpa [pjTy] using HO.out)
      have HS1 := Lib.hid (show (pjT0 m ++ pjTy m 0).length = m + 1 from by simp [pjTy, pjT0_len])
      obtain ⟨n, rfl⟩ : ∃ n, n = m := ⟨_, rfl⟩
      go_wp2
      go_loopw [3, 5] (fun o v wr => ∃ (y s : Nat) (A' : Option Addr) (c' : Nat) (R' : Spine), y ≤ n ∧ v = .int .i64 y ∧ o = .slice A' s c' ∧ Hid ((pjT0 n ++ pjTy n y).length = s) ∧ s ≤ n + 1 + 5 * y ∧ Hid (OwnM wr w.heap.size A' c' R' (pjT0 n ++ pjTy n y)) ∧ Hid (Below w.heap.size w wr)) (fun _ v _ => n - (intOf v).toNat)
      case atStart => exact ⟨0, n + 1, _, _, _, Nat.zero_le _, rfl, rfl, HS1, by omega, HO1, HB⟩
      case round =>
        obtain ⟨y, s, A', c', R', hy, rfl, rfl, HS, hs, HO, HB⟩ := hrel
        by_cases hyn : y < n
        · have hy1 : (y : Int) < (n : Int) := by omega
          have HO2 := Lib.hid (show OwnM wr w.heap.size A' c' R' (pjT0 n ++ pjTy n y ++ pjTz y 0) from by simpa [pjTz] using HO.out)
          have HS2 := Lib.hid (show (pjT0 n ++ pjTy n y ++ pjTz y 0).length = s from by rw [show pjTz y 0 = [] from rfl, List.append_nil]; exact HS.out)
          obtain ⟨wo, rfl⟩ : ∃ wo, wo = wr := ⟨_, rfl⟩
          go_wp2
          go_loopw [3, 6] (fun o v wr => ∃ (z s2 : Nat) (A' : Option Addr) (c' : Nat) (R' : Spine), z ≤ n ∧ v = .int .i64 z ∧ o = .slice A' s2 c' ∧ Hid ((pjT0 n ++ pjTy n y ++ pjTz y z).length = s2) ∧ s2 ≤ s + z ∧ Hid (OwnM wr w.heap.size A' c' R' (pjT0 n ++ pjTy n y ++ pjTz y z)) ∧ Hid (Below w.heap.size w wr)) (fun _ v _ => n - (intOf v).toNat)
          case atStart => exact ⟨0, s, _, _, _, Nat.zero_le _, rfl, rfl, HS2, by omega, HO2, HB⟩
          case round =>
            obtain ⟨z, s2, A2, c2, R2, hz, rfl, rfl, HS2, hs2, HO2, HB2⟩ := hrel
            have hsz := HB2.out.size
            by_cases hzn : z < n
            · have hz1 : (z : Int) < (n : Int) := by omega
              have hOw := (show Below w.heap.size w (wr.alloc (.cells #[.int .i64 (1), .int .i64 ((y : Int)), .int .i64 ((z : Int))] 2)) from HB2.out.alloc hsz _)
              have hOi := lit3I wr (1) ((y : Int)) ((z : Int)) (Nat.le_refl wr.heap.size)
              have HAp := Lib.hid (later_apart HO2.out hOi)
              have HOx := Lib.hid ((HO2.out.alloc (.cells #[.int .i64 (1), .int .i64 ((y : Int)), .int .i64 ((z : Int))] 2)).alloc (.cells #[.slice (some ⟨wr.heap.size, 0, none⟩) 3 3] 37))
              have HIx := Lib.hid ((hOi.lower (lo' := w.heap.size) hsz).alloc (.cells #[.slice (some ⟨wr.heap.size, 0, none⟩) 3 3] 37))
              have HBx := Lib.hid (hOw.alloc hOw.size (.cells #[.slice (some ⟨wr.heap.size, 0, none⟩) 3 3] 37))
              clear hOw hOi
              go_wp2_with (at_builtin; refine wpM_append rfl _ _ rfl w.heap.size _ _ _ R2 (pjT0 n ++ pjTy n y ++ pjTz y z) (some ⟨wr.heap.size, 0, none⟩) 3 3 [(1), ((y : Int)), ((z : Int))] (wr.heap.size + 1) rfl rfl HS2.out rfl HOx.out HIx.out HAp.out (World.cell?_alloc_at _ _ _ _ (by simp)) (by omega) (by simp; omega) ?_; intro A7 c7 R7 w7 ho7 hg7 ha7)
              have HB7 := Lib.hid (show Below w.heap.size w w7 from HBx.out.trans (below_blkM HOx.out hg7 (Nat.le_refl _) (by simp; omega)))
              have HOp := Lib.hid ho7
              clear ho7 hg7 ha7
              have HO7 := Lib.hid (show OwnM w7 w.heap.size A7 c7 R7 (pjT0 n ++ pjTy n y ++ pjTz y (z + 1)) from by rw [pjTz_succ, ← List.append_assoc]; exact HOp.out)
              have HS7 := Lib.hid (show (pjT0 n ++ pjTy n y ++ pjTz y (z + 1)).length = s2 + 1 from by rw [pjTz_succ, ← List.append_assoc, List.length_append, HS2.out]; rfl)
              go_wp2
              go_roundw
              case rel => exact ⟨z + 1, s2 + 1, A7, c7, R7, by omega, by go_num, rfl, HS7, by omega, HO7, HB7⟩
              case measure => simp [intOf] <;> omega
            · obtain rfl : z = n := by omega
              have HO7 := Lib.hid (show OwnM wr w.heap.size A2 c2 R2 (pjT0 z ++ pjTy z (y + 1)) from by rw [pjTy_succ, ← List.append_assoc]; exact HO2.out)
              have HS7 := Lib.hid (show (pjT0 z ++ pjTy z (y + 1)).length = s2 from by rw [pjTy_succ, ← List.append_assoc]; exact HS2.out)
              go_wp2
              go_roundw
              case rel => exact ⟨y + 1, s2, A2, c2, R2, by omega, by go_num, rfl, HS7, by omega, HO7, HB2⟩
              case measure => simp [intOf] <;> omega
        · obtain rfl : y = n := by omega
          go_wp2
          go_ret
          exact ⟨⟨_, _, _, _, rfl, HS.out, HO.out⟩, HB.out⟩

theorem keep4P {lo b1 b2 b3 : Nat} {i j c : Nat} {w w' : World} {v0 v1 v2 v3 : Value} (hb : Below lo w w') (h1 : b1 < lo) (h2 : b2 < lo) (h3 : b3 < lo)
    (h : w.cell? ⟨b1, i, none⟩ = some v0 ∧ w.cell? ⟨b1, j, none⟩ = some v1 ∧ w.cell? ⟨b2, c, none⟩ = some v2 ∧ w.cell? ⟨b3, c, none⟩ = some v3) :
    w'.cell? ⟨b1, i, none⟩ = some v0 ∧ w'.cell? ⟨b1, j, none⟩ = some v1 ∧ w'.cell? ⟨b2, c, none⟩ = some v2 ∧ w'.cell? ⟨b3, c, none⟩ = some v3 :=
  ⟨(hb.cell (p := ⟨b1, i, none⟩) h1).trans h.1, (hb.cell (p := ⟨b1, j, none⟩) h1).trans h.2.1, (hb.cell (p := ⟨b2, c, none⟩) h2).trans h.2.2.1, (hb.cell (p := ⟨b3, c, none⟩) h3).trans h.2.2.2⟩

set_option maxHeartbeats 16000000 in
set_option maxRecDepth 100000 in
theorem l12Space_c (w : World) (n : Nat) (hyes : pjOk (n : Int) = true) : Calls Try.prog 32 #[.int .i64 (n : Int)] w (PostD2 w ((pjN n : Nat) : Int) (sortLL (pjB (pjDq (n : Int)) (pjN n) (pjN n)))) := by
  obtain ⟨hb, hqq, hq2, hq5⟩ := pjOk_nat hyes
  have hn5 : n ≤ 5 := by omega
  have hn2 : 2 ≤ n := by omega
  have hV := fdY_valid hb
  have hzD := zeroD
  obtain ⟨wa, hwa⟩ : ∃ wa, wa = w.alloc (.cells #[.int .i64 0, .slice none 0 0] 29) := ⟨_, rfl⟩
  have hZa : RBox wa w.heap.size := by rw [hwa]; exact RBox.made w 29
  have hBa : Below w.heap.size w wa := by rw [hwa]; exact below_boxed w (.cells #[.int .i64 0, .slice none 0 0] 29)
  have hsa : w.heap.size + 1 ≤ wa.heap.size := by rw [hwa]; simp
  have HZa := Lib.hid hZa
  have HBa := Lib.hid hBa
  have HWa := Lib.hid hwa
  have HM := Lib.hid (l03Make_c wa (n : Int) hb)
  obtain ⟨d, hd⟩ : ∃ d, d = pjDq (n : Int) := ⟨_, rfl⟩
  have hdd : ∀ i j, d i j = pjD (fdP (n : Int)) (fdK (n : Int)) (fdY (n : Int)) n i j 3 := fun i j => by rw [hd]; rfl
  rw [← hd]
  generalize fdP (n : Int) = p at *
  generalize fdK (n : Int) = k at *
  generalize fdY (n : Int) = poly at *
  have hF := hV.ok
  have HPl := Lib.hid hV.len
  have HDd := Lib.hid hdd
  have HMu := Lib.hid (fun W Bf A c (hX : FldC W Bf p k A (k + 1) c) (hr : RdI W A c poly) (a b : Nat) (ha : a ≤ 64) (hb : b ≤ 64) => l03Mul_c W Bf p k A (k + 1) c a b poly hX hF (by omega) (by omega) hr hV.len (Nat.le_refl _) (Nat.le_refl _) hV.dig)
  have HCo := Lib.hid (fun W Bf A c (hX : FldC W Bf p k A (k + 1) c) (a b : Nat) (ha : a ≤ 64) (hb : b ≤ 64) => l03Sum_c W Bf p k A (k + 1) c a b 1 hX hF (by omega) (by omega) (by omega) (by omega))
  have HLt := Lib.hid (fun a b => show mulF p k poly a b ≤ 64 from by
    have h1 := (mulF_eq (k := k) (show 0 < p by have := hF.1; omega) (show 0 < k by have := hF.2.2.1; omega) poly a b).2
    have h2 := hF.2.2.2.2
    omega)
  have HLc := Lib.hid (fun a b => show cmbF p k 1 a b ≤ 64 from by
    have h1 := (cmbF_eq (k := k) (show 0 < p by have := hF.1; omega) 1 a b).2
    have h2 := hF.2.2.2.2
    omega)
  have HLd := Lib.hid (fun i j c => show pjD p k poly n i j c ≤ 64 from by
    cases c with
    | zero => exact Nat.zero_le _
    | succ c => exact HLc.out _ _)
  have hM31 := pjN_le hn5
  have hTl : (pjT n).length = pjN n := by rw [pjT_len]; rfl
  obtain ⟨M, hMd⟩ : ∃ M, M = pjN n := ⟨_, rfl⟩
  rw [← hMd] at hM31 hTl ⊢
  have HTl := Lib.hid hTl
  have HEn := Lib.hid (fun i c (hi : i < M) (hc : c < 3) => pjE_eq (n := n) (i := i) (c := c) hn2 (by rw [hTl]; exact hi) hc)
  have HRl := Lib.hid (fun i (hi : i < M) => pjT_row_len (n := n) (i := i) hn2 (by rw [hTl]; exact hi))
  have HSo := Lib.hid (fun (W : World) (lo : Nat) (A : Option Addr) (s c : Nat) (R : Spine) (hr : OwnM W lo A c R (pjB d M M)) (hn : (pjB d M M).length = s) => l10Sort_c W A s c R (pjB d M M) hr.rd hn (by have := hr.nilCap; rwa [hn] at this) (by rw [pjB_len] at hn; omega) (fun i hi => by
      have := pjB_rows (d := d) (M := M) (m := M) (r := row (pjB d M M) i) (by rw [row_eq (by omega)]; exact List.getElem_mem _)
      omega))
  generalize sortLL (pjB d M M) = lst at *
  have HPt := Lib.hid (fun W => l12Triples_c W n hn5)
  have hM1 : 1 ≤ M := by rw [hMd]; unfold pjN; omega
  clear hyes hb hqq hV hd hdd hF hwa hZa hBa hMd hTl
  go_enter Try.func32, Try.ntmps32
  go_wp2_with fail
  rw [← HWa.out]
  refine (HM.out).mono ?_
  rintro e w1 ⟨⟨A1, n1, c1, rfl, hn1, ho1⟩, hb1⟩
  obtain rfl : k + 1 = n1 := HPl.out.symm.trans hn1
  obtain ⟨w2, hw2⟩ : ∃ w2, w2 = w1.alloc (.cells #[.int .i64 (p : Int), .int .i64 (k : Int), .slice A1 (k + 1) c1] 39) := ⟨_, rfl⟩
  have HX2 := Lib.hid (show FldC w2 w1.heap.size p k A1 (k + 1) c1 from by rw [hw2]; exact FldC.made w1 p k A1 (k + 1) c1 39)
  have hb2 : Below w1.heap.size w1 w2 := by rw [hw2]; exact below_boxed w1 _
  have HP2 := Lib.hid (ho1.rd.below hb2)
  have hb12 : Below wa.heap.size wa w2 := hb1.trans (hb2.mono hb1.size)
  have HZ2 := Lib.hid (HZa.out.step (lo := wa.heap.size) (by omega) hb12)
  have HB2 := Lib.hid (HBa.out.trans (hb12.mono HBa.out.size))
  have hs2 := hb12.size
  have HW2 := Lib.hid hw2
  clear hb1 ho1 hn1 hb2 hw2 hb12
  go_wp2_with fail
  rw [← HW2.out]
  refine (HPt.out w2).mono ?_
  rintro e w3 ⟨⟨A3, m3, c3, R3, rfl, hm3, ho3⟩, hb3⟩
  obtain rfl : M = m3 := HTl.out.symm.trans hm3
  obtain ⟨gT, rfl, hgT, hgTs, _⟩ := ho3.at_ (k := 0) (by rw [HTl.out]; exact hM1)
  have HRc := Lib.hid (fun i (hi : i < M) => show ∃ g, (R3 i).1 = some ⟨g, 0, none⟩ ∧ g < w3.heap.size ∧ w3.cell? ⟨gT, i, none⟩ = some (.slice (some ⟨g, 0, none⟩) 3 (R3 i).2) ∧ ∀ c, c < 3 → w3.cell? ⟨g, c, none⟩ = some (.int .i64 ((pjE n i c : Nat) : Int)) from by
    obtain ⟨g, eg, _, _, h, _⟩ := ho3.at_ (k := i) (by rw [HTl.out]; exact hi)
    injection eg with eg
    injection eg with eg
    subst eg
    have hrw := ho3.rows i (by rw [HTl.out]; exact hi)
    have hl := HRl.out i hi
    obtain ⟨g2, e2, _, hg2, _, _⟩ := hrw.at_ (k := 0) (by omega)
    refine ⟨g2, e2, hg2, by rw [h, hl, e2], fun c hc => ?_⟩
    obtain ⟨g3, e3, _, _, h3, _⟩ := hrw.at_ (k := c) (by omega)
    rw [e2] at e3
    injection e3 with e3
    injection e3 with e3
    subst e3
    rw [h3, (HEn.out i c hi hc).1])
  have HX3 := Lib.hid (HX2.out.below hb3)
  have HP3 := Lib.hid (HP2.out.below hb3)
  have HZ3 := Lib.hid (HZ2.out.step (lo := w2.heap.size) (by omega) hb3)
  have HB3 := Lib.hid (HB2.out.trans (hb3.mono HB2.out.size))
  have hs3 := hb3.size
  clear hb3 ho3 hm3
  have HO0 := Lib.hid (show OwnM (w3.alloc (.cells #[] 37)) w3.heap.size (some ⟨w3.heap.size, 0, none⟩) 0 (fun _ => (none, 0)) (pjB d M 0) from OwnM.lit0 w3 (Nat.le_refl w3.heap.size) _)
  have HOb := Lib.hid (below_boxed w3 (.cells #[] 37))
  go_wp2
  go_loopw [5, 6] (fun o v wr => ∃ (i : Nat) (A' : Option Addr) (c' : Nat) (R' : Spine), i ≤ M ∧ v = .int .i64 i ∧ o = .slice A' i c' ∧ Hid (OwnM wr w3.heap.size A' c' R' (pjB d M i)) ∧ Hid (Below w3.heap.size w3 wr)) (fun _ v _ => M - (intOf v).toNat)
  case atStart => exact ⟨0, _, _, _, Nat.zero_le _, rfl, rfl, HO0, HOb⟩
  case round =>
    obtain ⟨i, A', c', R', hi, rfl, rfl, HO, HB⟩ := hrel
    have hszr := HB.out.size
    by_cases hiM : i < M
    · have hi0 : (0 : Int) ≤ (i : Int) := by omega
      have hi1 : (i : Int) < (M : Int) := by omega
      have HI0 := Lib.hid (show OwnI (wr.alloc (.cells #[] 2)) wr.heap.size (some ⟨wr.heap.size, 0, none⟩) 0 (pjL d i 0) from OwnI.lit0 wr (Nat.le_refl _))
      have HIb := Lib.hid (below_boxed wr (.cells #[] 2))
      obtain ⟨wq, rfl⟩ : ∃ wq, wq = wr := ⟨_, rfl⟩
      go_wp2
      go_loopw [7, 8] (fun o v wr => ∃ (j s : Nat) (A' : Option Addr) (c' : Nat), j ≤ M ∧ v = .int .i64 j ∧ o = .slice A' s c' ∧ s ≤ j ∧ Hid ((pjL d i j).length = s) ∧ Hid (OwnI wr wq.heap.size A' c' (pjL d i j)) ∧ Hid (Below wq.heap.size wq wr)) (fun _ v _ => M - (intOf v).toNat)
      case atStart => exact ⟨0, 0, _, _, Nat.zero_le _, rfl, rfl, Nat.le_refl _, Lib.hid rfl, HI0, HIb⟩
      case round =>
        obtain ⟨j, s, A5, c5, hj, rfl, rfl, hs, HS5, HO5, HB5⟩ := hrel
        have hsz5 := HB5.out.size
        have HBw := Lib.hid (HB.out.trans (HB5.out.mono hszr))
        by_cases hjM : j < M
        · have hj0 : (0 : Int) ≤ (j : Int) := by omega
          have hj1 : (j : Int) < (M : Int) := by omega
          obtain ⟨wz, rfl⟩ : ∃ wz, wz = wr := ⟨_, rfl⟩
          go_wp2
          go_loopw [9, 10] (fun u v wr => ∃ c : Nat, c ≤ 3 ∧ v = .int .i64 c ∧ u = .int .i64 ((pjD p k poly n i j c : Nat) : Int) ∧ Hid (Below wz.heap.size wz wr)) (fun _ v _ => 3 - (intOf v).toNat)
          case atStart => exact ⟨0, by omega, rfl, rfl, Lib.hid (Below.refl _ _)⟩
          case round =>
            obtain ⟨c, hc, rfl, rfl, HBx⟩ := hrel
            have hszx := HBx.out.size
            have HBy := Lib.hid (HBw.out.trans (HBx.out.mono HBw.out.size))
            by_cases hc3 : c < 3
            · have hc0 : (0 : Int) ≤ (c : Int) := by omega
              have hc1' : (c : Int) < 3 := by omega
              have HXy := Lib.hid (HX3.out.below HBy.out)
              obtain ⟨gi, ei, hgi, hci, hcei⟩ := HRc.out i hiM
              obtain ⟨gj, ej, hgj, hcj, hcej⟩ := HRc.out j hjM
              have hS := (show wr.cell? ⟨gT, i, none⟩ = some (.slice (some ⟨gi, 0, none⟩) 3 (R3 i).2) ∧ wr.cell? ⟨gT, j, none⟩ = some (.slice (some ⟨gj, 0, none⟩) 3 (R3 j).2) ∧ wr.cell? ⟨gi, c, none⟩ = some (.int .i64 ((pjE n i c : Nat) : Int)) ∧ wr.cell? ⟨gj, c, none⟩ = some (.int .i64 ((pjE n j c : Nat) : Int)) from keep4P HBy.out hgTs hgi hgj ⟨hci, hcj, hcei c hc3, hcej c hc3⟩)
              have hl1 := Nat.lt_of_lt_of_le hgTs HBy.out.size
              have hl2 := Nat.lt_of_lt_of_le hgi HBy.out.size
              have hl3 := Nat.lt_of_lt_of_le hgj HBy.out.size
              have hEi := (HEn.out i c hiM hc3).2
              have hEj := (HEn.out j c hjM hc3).2
              have HMv := Lib.hid (HMu.out wr.drew w1.heap.size A1 c1 (HXy.out.drewN 1) ((HP3.out.below HBy.out).drewN 1) (pjE n i c) (pjE n j c) (by omega) (by omega))
              have HDs := Lib.hid (show pjD p k poly n i j (c + 1) = cmbF p k 1 (pjD p k poly n i j c) (mulF p k poly (pjE n i c) (pjE n j c)) from rfl)
              have hml := HLt.out (pjE n i c) (pjE n j c)
              have hsl := HLd.out i j c
              have HCv := Lib.hid (fun W hX => HCo.out W w1.heap.size A1 c1 hX (pjD p k poly n i j c) (mulF p k poly (pjE n i c) (pjE n j c)) hsl hml)
              rw [← HDs.out] at HCv
              generalize mulF p k poly (pjE n i c) (pjE n j c) = t at *
              generalize pjE n i c = a at *
              generalize pjE n j c = b at *
              obtain ⟨sm, hsm⟩ : ∃ sm, sm = pjD p k poly n i j c := ⟨_, rfl⟩
              rw [← hsm] at HCv hsl ⊢
              obtain ⟨s2, hs2n⟩ : ∃ s2, s2 = pjD p k poly n i j (c + 1) := ⟨_, rfl⟩
              rw [← hs2n] at HCv
              have HS2n := Lib.hid hs2n
              clear hEi hEj hsm hs2n hci hcj hcei hcej ei ej hgi hgj
              go_wp2
              go_region_held3 (fun w' => w'.cell? ⟨gT, i, none⟩ = some (.slice (some ⟨gi, 0, none⟩) 3 (R3 i).2) ∧ w'.cell? ⟨gT, j, none⟩ = some (.slice (some ⟨gj, 0, none⟩) 3 (R3 j).2) ∧ w'.cell? ⟨gi, c, none⟩ = some (.int .i64 (a : Int)) ∧ w'.cell? ⟨gj, c, none⟩ = some (.int .i64 (b : Int))) (first | exact hS | exact hS5 | exact hS6)
                (first | (go_at_call 49; (with_reducible refine (HMv.out).mono ?_); rintro e w5 ⟨rfl, hb5⟩; have hS5 := keep4P hb5 hl1 hl2 hl3 hS; have hz5 := hb5.size; have HX5 := Lib.hid ((HXy.out.drewN 1).below hb5)) | (go_at_call 39; (with_reducible refine (HCv.out w5 HX5.out).mono ?_); rintro e w6 ⟨rfl, hb6⟩; have hS6 := keep4P (hb6.mono hz5) hl1 hl2 hl3 hS5))
              have HB6 := Lib.hid (show Below wz.heap.size wz w6 from HBx.out.drew.trans ((hb5.trans (hb6.mono hz5)).mono hszx))
              clear hb5 hb6 hS hS5 hS6 hz5
              go_wp2
              go_roundw
              case rel => exact ⟨c + 1, by omega, by go_num, by rw [HS2n.out], HB6⟩
              case measure => simp [intOf] <;> omega
            · obtain rfl : c = 3 := by omega
              have HOz := Lib.hid (HO5.out.below HBx.out)
              have HBz := Lib.hid (HB5.out.trans (HBx.out.mono hsz5))
              have hszz := HBz.out.size
              have HEd := Lib.hid (HDd.out i j)
              obtain ⟨t, ht⟩ : ∃ t, t = pjD p k poly n i j 3 := ⟨_, rfl⟩
              rw [← ht] at HEd ⊢
              by_cases h0 : t = 0
              · have HNx := Lib.hid (pjL_hit (d := d) (i := i) (m := j) (by rw [HEd.out]; exact h0))
                subst h0
                clear ht
                go_wp2_with (at_builtin; refine wpI_append rfl _ _ rfl wq.heap.size _ _ _ (pjL d i j) (j : Int) wr.heap.size rfl rfl HS5.out (HOz.out.alloc (.cells #[.int .i64 (j : Int)] 2)) (World.cell?_alloc_at _ _ _ _ rfl) (by omega) (by simp; omega) ?_; intro A7 c7 w7 ho7 hg7 ha7)
                have HB7 := Lib.hid (show Below wq.heap.size wq w7 from (HBz.out.alloc hszz (.cells #[.int .i64 (j : Int)] 2)).trans (below_blk (HOz.out.alloc (.cells #[.int .i64 (j : Int)] 2)) hg7 (Nat.le_refl _) (by simp; omega)))
                have HO7 := Lib.hid (show OwnI w7 wq.heap.size A7 c7 (pjL d i (j + 1)) from by rw [HNx.out]; exact ho7)
                have HS7 := Lib.hid (show (pjL d i (j + 1)).length = s + 1 from by rw [HNx.out, List.length_append, HS5.out]; rfl)
                clear ho7 hg7 ha7
                go_wp2
                go_roundw
                case rel => exact ⟨j + 1, s + 1, A7, c7, by omega, by go_num, rfl, by omega, HS7, HO7, HB7⟩
                case measure => simp [intOf] <;> omega
              · have HNx := Lib.hid (pjL_miss (d := d) (i := i) (m := j) (by rw [HEd.out]; exact h0))
                have h0d : ((t : Int) == 0) = false := by simp; omega
                have HO7 := Lib.hid (show OwnI wr wq.heap.size A5 c5 (pjL d i (j + 1)) from by rw [HNx.out]; exact HOz.out)
                have HS7 := Lib.hid (show (pjL d i (j + 1)).length = s from by rw [HNx.out]; exact HS5.out)
                clear ht h0
                go_wp2
                go_roundw
                case rel => exact ⟨j + 1, s, A5, c5, by omega, by go_num, rfl, by omega, HS7, HO7, HBz⟩
                case measure => simp [intOf] <;> omega
        · obtain rfl : j = M := by omega
          have HOx := Lib.hid ((HO.out.below HB5.out).alloc (.cells #[.slice A5 s c5] 37))
          have HIx := Lib.hid ((HO5.out.lower (lo' := w3.heap.size) hszr).alloc (.cells #[.slice A5 s c5] 37))
          have HAp := Lib.hid (later_apart HO.out HO5.out)
          have HLb := Lib.hid (pjB_len d j i)
          go_wp2_with (at_builtin; refine wpM_append rfl _ _ rfl w3.heap.size _ _ _ R' (pjB d j i) A5 s c5 (pjL d i j) wr.heap.size rfl rfl HLb.out HS5.out HOx.out HIx.out HAp.out (World.cell?_alloc_at _ _ _ _ rfl) (by omega) (by have := HBw.out.size; simp; omega) ?_; intro A9 c9 R9 w9 ho9 hg9 ha9)
          have HB9 := Lib.hid ((HBw.out.alloc HBw.out.size (.cells #[.slice A5 s c5] 37)).trans (below_blkM HOx.out hg9 (Nat.le_refl _) (by have := HBw.out.size; simp; omega)))
          have HO9 := Lib.hid (show OwnM w9 w3.heap.size A9 c9 R9 (pjB d j (i + 1)) from by rw [pjB_succ]; exact ho9)
          clear ho9 hg9 ha9
          go_wp2
          go_roundw
          case rel => exact ⟨i + 1, _, _, _, by omega, by go_num, rfl, HO9, HB9⟩
          case measure => simp [intOf] <;> omega
    · obtain rfl : i = M := by omega
      have HSk := Lib.hid (HSo.out wr w3.heap.size A' i c' R' HO.out (pjB_len d i i))
      have HZr := Lib.hid (HZ3.out.step (lo := w3.heap.size) (by omega) HB.out)
      have HBr := Lib.hid (HB3.out.trans (HB.out.mono HB3.out.size))
      go_wp2_with fail
      refine (HSk.out).mono ?_
      rintro e w9 ⟨⟨A9, n9, c9, R9, rfl, hn9, ho9⟩, hb9⟩
      have HZ9 := Lib.hid (HZr.out.step (lo := wr.heap.size) (by omega) hb9)
      have HB9 := Lib.hid (HBr.out.trans (hb9.mono HBr.out.size))
      have HO9 := Lib.hid (show OwnM w9 (w.heap.size + 1) A9 c9 R9 lst from ho9.lower (by omega))
      have HN9 := Lib.hid hn9
      clear hb9 ho9 hn9
      have rz := HZ9.out
      have z0 := rz.c0
      have z1 := rz.c1
      have y0 := rz.f0
      have y1 := rz.f1
      clear rz
      go_wp2
      obtain ⟨r0, r1⟩ := HZ9.out.read (.int .i64 (i : Int)) (.slice A9 n9 c9)
      refine bodyPost_ret (v := .agg #[.int .i64 (i : Int), .slice A9 n9 c9]) (by simp [results, Try.results32, go_sem, r0, r1]) rfl ⟨⟨A9, n9, c9, R9, rfl, HN9.out, own_set2 HO9.out (by omega) _ _⟩, below_set2 HB9.out (by omega)⟩

set_option maxHeartbeats 8000000 in
set_option maxRecDepth 100000 in
theorem specProjectivePlane_no (w : World) (q : Int) (hno : pjOk q = false) : Calls Try.prog 16 #[.int .i64 q] w (PostDC w 0 [] 2) := by
  have hzD := zeroD
  obtain ⟨wa, hwa⟩ : ∃ wa, wa = w.alloc (.cells #[.int .i64 0, .slice none 0 0] 29) := ⟨_, rfl⟩
  have hZa : RBox wa w.heap.size := by rw [hwa]; exact RBox.made w 29
  have hBa : Below w.heap.size w wa := by rw [hwa]; exact below_boxed w (.cells #[.int .i64 0, .slice none 0 0] 29)
  have hsa : w.heap.size + 1 ≤ wa.heap.size := by rw [hwa]; simp
  have HZa := Lib.hid hZa
  have HBa := Lib.hid hBa
  have HWa := Lib.hid hwa
  have hSp := l03Split_c wa q
  rcases hb : fdB q with _ | _
  · rw [show fdV q = (0, 0) from if_neg (by rw [hb]; simp)] at hSp
    have HM := Lib.hid hSp
    clear hb hno hwa hZa hBa hSp
    go_enter Try.func16, Try.ntmps16
    go_wp2_with fail
    rw [← HWa.out]
    refine (HM.out).mono ?_
    rintro e w' ⟨rfl, rfl⟩
    have rz := HZa.out
    have z0 := rz.c0
    have z1 := rz.c1
    have y0 := rz.f0
    have y1 := rz.f1
    clear rz
    go_wp2
    obtain ⟨r0, r1⟩ := HZa.out.read (.int .i64 0) (.slice none 0 0)
    refine bodyPost_ret (v := .tuple #[.agg #[.int .i64 0, .slice none 0 0], .int .i64 2]) (by simp [results, Try.results16, go_sem, r0, r1]) rfl ⟨⟨none, 0, 0, fun _ => (none, 0), rfl, rfl, OwnM.nil_ _ _ _⟩, by first | exact HBa.out | exact below_set2 HBa.out (by omega)⟩
  · have hfs := fd_spec hb
    rw [show fdV q = ((fdP q : Int), (fdK q : Int)) from if_pos hb] at hSp
    have HM := Lib.hid hSp
    have hp2 : 2 ≤ fdP q := hfs.1.1
    have hpd : ((fdP q : Int) == 0) = false := by simp; omega
    have hq64 := hfs.2.2.2.2.2.2
    have hq2 := hfs.2.2.2.2.2.1
    have hsq : 0 ≤ q * q ∧ q * q ≤ 4096 := ⟨Int.mul_nonneg (by omega) (by omega), by have := Int.mul_le_mul hfs.2.2.2.2.2.2 hfs.2.2.2.2.2.2 (by omega) (by omega); omega⟩
    have hqq : 32 < q * q + q + 1 := by
      rcases Int.lt_or_le 32 (q * q + q + 1) with h | h
      · exact h
      · have : pjOk q = true := decide_eq_true ⟨hb, h⟩
        rw [hno] at this; cases this
    obtain ⟨Q, hQ⟩ : ∃ Q, Q = q * q := ⟨_, rfl⟩
    have hw1 : IntKind.i64.wrap (q * q) = Q := by rw [← hQ]; exact IntWalk.i64_in _ (by omega)
    rw [← hQ] at hqq hsq
    have hw2 : IntKind.i64.wrap (Q + q) = Q + q := IntWalk.i64_in _ (by omega)
    have hw3 : IntKind.i64.wrap (Q + q + 1) = Q + q + 1 := IntWalk.i64_in _ (by omega)
    generalize fdP q = p at *
    generalize fdK q = k at *
    clear hb hno hwa hZa hBa hfs hQ hSp
    go_enter Try.func16, Try.ntmps16
    go_wp2_with fail
    rw [← HWa.out]
    refine (HM.out).mono ?_
    rintro e w' ⟨rfl, rfl⟩
    have rz := HZa.out
    have z0 := rz.c0
    have z1 := rz.c1
    have y0 := rz.f0
    have y1 := rz.f1
    clear rz
    go_wp2
    obtain ⟨r0, r1⟩ := HZa.out.read (.int .i64 0) (.slice none 0 0)
    refine bodyPost_ret (v := .tuple #[.agg #[.int .i64 0, .slice none 0 0], .int .i64 2]) (by simp [results, Try.results16, go_sem, r0, r1]) rfl ⟨⟨none, 0, 0, fun _ => (none, 0), rfl, rfl, OwnM.nil_ _ _ _⟩, by first | exact HBa.out | exact below_set2 HBa.out (by omega)⟩

set_option maxHeartbeats 8000000 in
set_option maxRecDepth 100000 in
theorem specProjectivePlane_yes (w : World) (n : Nat) (hyes : pjOk (n : Int) = true) : Calls Try.prog 16 #[.int .i64 (n : Int)] w (PostDC w ((pjN n : Nat) : Int) (sortLL (pjB (pjDq (n : Int)) (pjN n) (pjN n))) 0) := by
  obtain ⟨hb, hqq, hq2, hq5⟩ := pjOk_nat hyes
  have hfs := fd_spec hb
  have hzD := zeroD
  obtain ⟨wa, hwa⟩ : ∃ wa, wa = w.alloc (.cells #[.int .i64 0, .slice none 0 0] 29) := ⟨_, rfl⟩
  have hZa : RBox wa w.heap.size := by rw [hwa]; exact RBox.made w 29
  have hBa : Below w.heap.size w wa := by rw [hwa]; exact below_boxed w (.cells #[.int .i64 0, .slice none 0 0] 29)
  have hsa : w.heap.size + 1 ≤ wa.heap.size := by rw [hwa]; simp
  have HZa := Lib.hid hZa
  have HBa := Lib.hid hBa
  have HWa := Lib.hid hwa
  have hSp := l03Split_c wa (n : Int)
  rw [show fdV (n : Int) = ((fdP (n : Int) : Int), (fdK (n : Int) : Int)) from if_pos hb] at hSp
  have HM := Lib.hid hSp
  have HPl := Lib.hid (l12Space_c wa n hyes)
  have hp2 : 2 ≤ fdP (n : Int) := hfs.1.1
  have hpd : ((fdP (n : Int) : Int) == 0) = false := by simp; omega
  have hsq : 0 ≤ (n : Int) * (n : Int) := Int.mul_nonneg (by omega) (by omega)
  obtain ⟨Q, hQ⟩ : ∃ Q, Q = (n : Int) * (n : Int) := ⟨_, rfl⟩
  rw [← hQ] at hqq hsq
  have hw1 : IntKind.i64.wrap ((n : Int) * (n : Int)) = Q := by rw [← hQ]; exact IntWalk.i64_in _ (by omega)
  have hw2 : IntKind.i64.wrap (Q + (n : Int)) = Q + (n : Int) := IntWalk.i64_in _ (by omega)
  have hw3 : IntKind.i64.wrap (Q + (n : Int) + 1) = Q + (n : Int) + 1 := IntWalk.i64_in _ (by omega)
  have hq32 : ¬ (32 : Int) < Q + (n : Int) + 1 := by omega
  generalize sortLL (pjB (pjDq (n : Int)) (pjN n) (pjN n)) = lst at *
  generalize pjN n = M at *
  generalize fdP (n : Int) = p at *
  generalize fdK (n : Int) = k at *
  clear hb hyes hwa hZa hBa hfs hQ hSp
  go_enter Try.func16, Try.ntmps16
  go_wp2_with fail
  rw [← HWa.out]
  refine (HM.out).mono ?_
  rintro e w' ⟨rfl, rfl⟩
  go_wp2_with fail
  refine (HPl.out).mono ?_
  rintro e w9 ⟨⟨A9, n9, c9, R9, rfl, hn9, ho9⟩, hb9⟩
  have HZ9 := Lib.hid (HZa.out.step (lo := wa.heap.size) (by omega) hb9)
  have HB9 := Lib.hid (HBa.out.trans (hb9.mono HBa.out.size))
  have HO9 := Lib.hid (show OwnM w9 (w.heap.size + 1) A9 c9 R9 lst from ho9.lower (by omega))
  have HN9 := Lib.hid hn9
  clear hb9 ho9 hn9
  have rz := HZ9.out
  have z0 := rz.c0
  have z1 := rz.c1
  have y0 := rz.f0
  have y1 := rz.f1
  clear rz
  go_wp2
  obtain ⟨r0, r1⟩ := HZ9.out.read (.int .i64 (M : Int)) (.slice A9 n9 c9)
  refine bodyPost_ret (v := .tuple #[.agg #[.int .i64 (M : Int), .slice A9 n9 c9], .int .i64 0]) (by simp [results, Try.results16, go_sem, r0, r1]) rfl ⟨⟨A9, n9, c9, R9, rfl, HN9.out, own_set2 HO9.out (by omega) _ _⟩, below_set2 HB9.out (by omega)⟩
end Go.Proofs.Ytbbaeopobnpnmaa
