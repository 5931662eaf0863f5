/-
  AffinePlane of the reference. Conditions: those of each theorem.
-/
import Derived.Test.YtbbaeopobnpnmaaApP
import Derived.Test.YtbbaeopobnpnmaaFldE
namespace Go.Proofs.Ytbbaeopobnpnmaa
open Go.RowKit
set_option linter.unusedVariables false
set_option linter.unusedSimpArgs false

/-- It returned a design. -/
def PostD2 (w : World) (p : Int) (xss : List (List Int)) (e : Ending) (w' : World) : Prop :=
  (∃ A n c R, e = .returned (.agg #[.int .i64 p, .slice A n c]) ∧ xss.length = n ∧ OwnM w' w.heap.size A c R xss) ∧ Below w.heap.size w w'

set_option maxHeartbeats 16000000 in
set_option maxRecDepth 100000 in
theorem l12Plane_c (w : World) (n : Nat) (hyes : apOk (n : Int) = true) : Calls Try.prog 29 #[.int .i64 (n : Int)] w (PostD2 w ((n : Int) * (n : Int)) (sortLL (apI n (apG_ (n : Int)) n))) := by
  obtain ⟨hb, hqq, hq2, hq5⟩ := apOk_nat hyes
  have hn5 : n ≤ 5 := by omega
  have hn2 : 2 ≤ n := by omega
  have hV := fdY_valid hb
  have hzD := zeroD
  obtain ⟨wa, hwa⟩ : ∃ wa, wa = w.alloc (.cells #[.int .i64 0, .slice none 0 0] 29) := ⟨_, rfl⟩
  have hZa : RBox wa w.heap.size := by rw [hwa]; exact RBox.made w 29
  have hBa : Below w.heap.size w wa := by rw [hwa]; exact below_boxed w (.cells #[.int .i64 0, .slice none 0 0] 29)
  have hsa : w.heap.size + 1 ≤ wa.heap.size := by rw [hwa]; simp
  have HZa := Lib.hid hZa
  have HBa := Lib.hid hBa
  have HWa := Lib.hid hwa
  have HM := Lib.hid (l03Make_c wa (n : Int) hb)
  obtain ⟨g, hg⟩ : ∃ g, g = apG_ (n : Int) := ⟨_, rfl⟩
  have hgd : ∀ m b x, g m b x = cmbF (fdP (n : Int)) (fdK (n : Int)) 1 (mulF (fdP (n : Int)) (fdK (n : Int)) (fdY (n : Int)) m x) b := fun m b x => by rw [hg]; rfl
  rw [← hg]
  generalize fdP (n : Int) = p at *
  generalize fdK (n : Int) = k at *
  generalize fdY (n : Int) = poly at *
  have hF := hV.ok
  have HPl := Lib.hid hV.len
  have HGd := Lib.hid hgd
  have HMu := Lib.hid (fun W Bf A c (hX : FldC W Bf p k A (k + 1) c) (hr : RdI W A c poly) (a b : Nat) (ha : a ≤ 64) (hb : b ≤ 64) => l03Mul_c W Bf p k A (k + 1) c a b poly hX hF (by omega) (by omega) hr hV.len (Nat.le_refl _) (Nat.le_refl _) hV.dig)
  have HCo := Lib.hid (fun W Bf A c (hX : FldC W Bf p k A (k + 1) c) (a b : Nat) (ha : a ≤ 64) (hb : b ≤ 64) => l03Sum_c W Bf p k A (k + 1) c a b 1 hX hF (by omega) (by omega) (by omega) (by omega))
  have HLt := Lib.hid (fun a b => show mulF p k poly a b ≤ 64 from by
    have h1 := (mulF_eq (k := k) (show 0 < p by have := hF.1; omega) (show 0 < k by have := hF.2.2.1; omega) poly a b).2
    have h2 := hF.2.2.2.2
    omega)
  have HLc := Lib.hid (fun a b => show cmbF p k 1 a b ≤ 64 from by
    have h1 := (cmbF_eq (k := k) (show 0 < p by have := hF.1; omega) 1 a b).2
    have h2 := hF.2.2.2.2
    omega)
  have hl30 : (apU n n ++ apL n g n).length ≤ 30 := by
    rw [List.length_append, apU_len, apL_len]
    have : n * n ≤ 5 * 5 := Nat.mul_le_mul hn5 hn5
    omega
  obtain ⟨N, hN⟩ : ∃ N, N = n * n := ⟨_, rfl⟩
  have hN25 : N ≤ 5 * 5 := by rw [hN]; exact Nat.mul_le_mul hn5 hn5
  have hwN : IntKind.i64.wrap ((n : Int) * (n : Int)) = (N : Int) := by rw [← Int.natCast_mul, ← hN]; exact IntWalk.i64_in _ (by omega)
  rw [show (n : Int) * (n : Int) = (N : Int) by rw [← Int.natCast_mul, ← hN]]
  have hrw : ∀ r ∈ apU n n ++ apL n g n, r.length = n := fun r hr => apI_rows (g := g) (m := n) ((ap_perm n g n).mem_iff.1 hr)
  have HSo := Lib.hid (fun (W : World) (A : Option Addr) (s c : Nat) (R : Spine) (hr : RdM W A c R (apU n n ++ apL n g n)) (hn : (apU n n ++ apL n g n).length = s) => by
    have hlr : ∀ k, k < (apU n n ++ apL n g n).length → (row (apU n n ++ apL n g n) k).length = n := fun k hk => hrw _ (by rw [row_eq hk]; exact List.getElem_mem _)
    have hcap : NilCap R s := by
      have := nilCap_of_rows hr (fun k hk => by rw [hlr k hk]; omega)
      rwa [hn] at this
    have := l10Sort_c W A s c R (apU n n ++ apL n g n) hr hn hcap (by omega) (fun k hk => by rw [hlr k (by omega)]; omega)
    rwa [sortLL_permA (ap_perm n g n)] at this)
  generalize sortLL (apI n g n) = lst at *
  clear hyes hb hqq hV hg hgd hF hwa hZa hBa hN hl30 hrw
  go_enter Try.func29, Try.ntmps29
  go_wp2_with fail
  rw [← HWa.out]
  refine (HM.out).mono ?_
  rintro e w1 ⟨⟨A1, n1, c1, rfl, hn1, ho1⟩, hb1⟩
  obtain rfl : k + 1 = n1 := HPl.out.symm.trans hn1
  obtain ⟨w2, hw2⟩ : ∃ w2, w2 = w1.alloc (.cells #[.int .i64 (p : Int), .int .i64 (k : Int), .slice A1 (k + 1) c1] 39) := ⟨_, rfl⟩
  have HX2 := Lib.hid (show FldC w2 w1.heap.size p k A1 (k + 1) c1 from by rw [hw2]; exact FldC.made w1 p k A1 (k + 1) c1 39)
  have hb2 : Below w1.heap.size w1 w2 := by rw [hw2]; exact below_boxed w1 _
  have HP2 := Lib.hid (ho1.rd.below hb2)
  have hb12 : Below wa.heap.size wa w2 := hb1.trans (hb2.mono hb1.size)
  have HZ2 := Lib.hid (HZa.out.step (lo := wa.heap.size) (by omega) hb12)
  have HB2 := Lib.hid (HBa.out.trans (hb12.mono HBa.out.size))
  have hs2 := hb12.size
  have HW2 := Lib.hid hw2
  have HE2 := Lib.hid (show w1.heap.size + 1 = w2.heap.size by rw [hw2]; simp)
  clear hb1 ho1 hn1 hb2 hw2 hb12
  have HO0 := Lib.hid (show OwnM (w2.alloc (.cells #[] 37)) w2.heap.size (some ⟨w2.heap.size, 0, none⟩) 0 (fun _ => (none, 0)) (apU n 0) from OwnM.lit0 w2 (Nat.le_refl w2.heap.size) _)
  have HOb := Lib.hid (below_boxed w2 (.cells #[] 37))
  go_wp2
  rw [← HW2.out]
  go_loopw [4, 5] (fun o v wr => ∃ (m : Nat) (A' : Option Addr) (c' : Nat) (R' : Spine), m ≤ n ∧ v = .int .i64 m ∧ o = .slice A' m c' ∧ Hid (OwnM wr w2.heap.size A' c' R' (apU n m)) ∧ Hid (Below w2.heap.size w2 wr)) (fun _ v _ => n - (intOf v).toNat)
  case atStart => exact ⟨0, _, _, _, Nat.zero_le _, rfl, rfl, by rw [HE2.out]; exact HO0, HOb⟩
  case round =>
    obtain ⟨m, A', c', R', hm, rfl, rfl, HO, HB⟩ := hrel
    have hszr := HB.out.size
    by_cases hmn : m < n
    · have hm1 : (m : Int) < (n : Int) := by omega
      obtain ⟨um, hum⟩ : ∃ um, um = n * m := ⟨_, rfl⟩
      have hum2 : um ≤ 5 * 5 := by rw [hum]; exact Nat.mul_le_mul hn5 (by omega)
      have hwum : IntKind.i64.wrap ((n : Int) * (m : Int)) = (um : Int) := by rw [← Int.natCast_mul, ← hum]; exact IntWalk.i64_in _ (by omega)
      have HV0 := Lib.hid (show OwnI (wr.alloc (.cells #[] 2)) wr.heap.size (some ⟨wr.heap.size, 0, none⟩) 0 (lnT (fun x => n * m + x) 0) from OwnI.lit0 wr (Nat.le_refl _))
      have HVb := Lib.hid (below_boxed wr (.cells #[] 2))
      have HUm := Lib.hid hum
      clear hum
      obtain ⟨wo, rfl⟩ : ∃ wo, wo = wr := ⟨_, rfl⟩
      go_wp2
      go_loopw [6, 7] (fun o v wr => ∃ (x : Nat) (A' : Option Addr) (c' : Nat), x ≤ n ∧ v = .int .i64 x ∧ o = .slice A' x c' ∧ Hid (OwnI wr wo.heap.size A' c' (lnT (fun x => n * m + x) x)) ∧ Hid (Below wo.heap.size wo wr)) (fun _ v _ => n - (intOf v).toNat)
      case atStart => exact ⟨0, _, _, Nat.zero_le _, rfl, rfl, HV0, HVb⟩
      case round =>
        obtain ⟨x, A5, c5, hx, rfl, rfl, HO5, HB5⟩ := hrel
        have hsz5 := HB5.out.size
        by_cases hxn : x < n
        · have hx1 : (x : Int) < (n : Int) := by omega
          have HLx := Lib.hid (lnT_len (fun x => n * m + x) x)
          have HSx := Lib.hid (show lnT (fun x => n * m + x) (x + 1) = lnT (fun x => n * m + x) x ++ [(um : Int) + (x : Int)] by rw [lnT_succ, ← HUm.out, Int.natCast_add])
          go_wp2_with (at_builtin; refine wpI_append rfl _ _ rfl wo.heap.size _ _ _ (lnT (fun x => n * m + x) x) ((um : Int) + (x : Int)) wr.heap.size rfl rfl HLx.out (HO5.out.alloc (.cells #[.int .i64 ((um : Int) + (x : Int))] 2)) (World.cell?_alloc_at _ _ _ _ rfl) (by omega) (by simp; omega) ?_; intro A3 c3 w3 ho3 hg3 ha3)
          have hB3 : Below wo.heap.size wo w3 := (HB5.out.alloc HB5.out.size (.cells #[.int .i64 ((um : Int) + (x : Int))] 2)).trans (below_blk (HO5.out.alloc (.cells #[.int .i64 ((um : Int) + (x : Int))] 2)) hg3 (Nat.le_refl _) (by simp; omega))
          have HO3 := Lib.hid ho3
          have HB3 := Lib.hid hB3
          clear ho3 hg3 ha3 hB3
          have HO6 := Lib.hid (show OwnI w3 wo.heap.size A3 c3 (lnT (fun x => n * m + x) (x + 1)) from by rw [HSx.out]; exact HO3.out)
          go_wp2
          go_roundw
          case rel => exact ⟨x + 1, A3, c3, by omega, by go_num, rfl, HO6, HB3⟩
          case measure => simp [intOf] <;> omega
        · obtain rfl : x = n := by omega
          have HBx := Lib.hid (HB.out.trans (HB5.out.mono hszr))
          have HLc5 := Lib.hid (show (apV x m).length = x from lnT_len _ _)
          have HLu := Lib.hid (apU_len x m)
          have HOv := Lib.hid (show OwnI wr wo.heap.size A5 c5 (apV x m) from HO5.out)
          have HOx := Lib.hid ((HO.out.below HB5.out).alloc (.cells #[.slice A5 x c5] 37))
          have HIx := Lib.hid ((HOv.out.lower (lo' := w2.heap.size) hszr).alloc (.cells #[.slice A5 x c5] 37))
          have HAp := Lib.hid (later_apart HO.out HOv.out)
          go_wp2_with (at_builtin; refine wpM_append rfl _ _ rfl w2.heap.size _ _ _ R' (apU x m) A5 x c5 (apV x m) wr.heap.size rfl rfl HLu.out HLc5.out HOx.out HIx.out HAp.out (World.cell?_alloc_at _ _ _ _ rfl) (by omega) (by simp; omega) ?_; intro A9 c9 R9 w9 ho9 hg9 ha9)
          have HB9 := Lib.hid ((HBx.out.alloc HBx.out.size (.cells #[.slice A5 x c5] 37)).trans (below_blkM HOx.out hg9 (Nat.le_refl _) (by simp; omega)))
          have HO9 := Lib.hid (show OwnM w9 w2.heap.size A9 c9 R9 (apU x (m + 1)) from by rw [apU_succ]; exact ho9)
          clear ho9 hg9 ha9
          go_wp2
          go_roundw
          case rel => exact ⟨m + 1, _, _, _, by omega, by go_num, rfl, HO9, HB9⟩
          case measure => simp [intOf] <;> omega
    · obtain rfl : m = n := by omega
      have HO1 := Lib.hid (show OwnM wr w2.heap.size A' c' R' (apU m m ++ apL m g 0) from by simpa [apL] using HO.out)
      have HS1 := Lib.hid (show (apU m m ++ apL m g 0).length = m from by simp [apL, apU_len])
      obtain ⟨n, rfl⟩ : ∃ n, n = m := ⟨_, rfl⟩
      go_wp2
      go_loopw [4, 8] (fun o v wr => ∃ (m s : Nat) (A' : Option Addr) (c' : Nat) (R' : Spine), m ≤ n ∧ v = .int .i64 m ∧ o = .slice A' s c' ∧ Hid ((apU n n ++ apL n g m).length = s) ∧ s ≤ n + 5 * m ∧ Hid (OwnM wr w2.heap.size A' c' R' (apU n n ++ apL n g m)) ∧ Hid (Below w2.heap.size w2 wr)) (fun _ v _ => n - (intOf v).toNat)
      case atStart => exact ⟨0, n, _, _, _, Nat.zero_le _, rfl, rfl, HS1, by omega, HO1, HB⟩
      case round =>
        obtain ⟨m, s, A', c', R', hm, rfl, rfl, HS, hs, HO, HB⟩ := hrel
        by_cases hmn : m < n
        · have hm1 : (m : Int) < (n : Int) := by omega
          have HO2 := Lib.hid (show OwnM wr w2.heap.size A' c' R' (apU n n ++ apL n g m ++ apB n g m 0) from by simpa [apB] using HO.out)
          have HS2 := Lib.hid (show (apU n n ++ apL n g m ++ apB n g m 0).length = s from by rw [show apB n g m 0 = [] from rfl, List.append_nil]; exact HS.out)
          obtain ⟨wo, rfl⟩ : ∃ wo, wo = wr := ⟨_, rfl⟩
          go_wp2
          go_loopw [4, 9] (fun o v wr => ∃ (b s2 : Nat) (A' : Option Addr) (c' : Nat) (R' : Spine), b ≤ n ∧ v = .int .i64 b ∧ o = .slice A' s2 c' ∧ Hid ((apU n n ++ apL n g m ++ apB n g m b).length = s2) ∧ s2 ≤ s + b ∧ Hid (OwnM wr w2.heap.size A' c' R' (apU n n ++ apL n g m ++ apB n g m b)) ∧ Hid (Below w2.heap.size w2 wr)) (fun _ v _ => n - (intOf v).toNat)
          case atStart => exact ⟨0, s, _, _, _, Nat.zero_le _, rfl, rfl, HS2, by omega, HO2, HB⟩
          case round =>
            obtain ⟨b, s2, A2, c2, R2, hbx, rfl, rfl, HS2, hs2', HO2, HBq⟩ := hrel
            have hszq := HBq.out.size
            by_cases hbn : b < n
            · have hb1 : (b : Int) < (n : Int) := by omega
              have HW0 := Lib.hid (show OwnI (wr.alloc (.cells #[] 2)) wr.heap.size (some ⟨wr.heap.size, 0, none⟩) 0 (lnT (fun y => n * y + g m b y) 0) from OwnI.lit0 wr (Nat.le_refl _))
              have HWb := Lib.hid (below_boxed wr (.cells #[] 2))
              obtain ⟨wq, rfl⟩ : ∃ wq, wq = wr := ⟨_, rfl⟩
              go_wp2
              go_loopw [10, 11] (fun o v wr => ∃ (y : Nat) (A' : Option Addr) (c' : Nat), y ≤ n ∧ v = .int .i64 y ∧ o = .slice A' y c' ∧ Hid (OwnI wr wq.heap.size A' c' (lnT (fun y => n * y + g m b y) y)) ∧ Hid (Below wq.heap.size wq wr)) (fun _ v _ => n - (intOf v).toNat)
              case atStart => exact ⟨0, _, _, Nat.zero_le _, rfl, rfl, HW0, HWb⟩
              case round =>
                obtain ⟨y, A6, c6, hyx, rfl, rfl, HO6, HB6⟩ := hrel
                have hsz6 := HB6.out.size
                by_cases hyn : y < n
                · have hy1 : (y : Int) < (n : Int) := by omega
                  obtain ⟨uy, huy⟩ : ∃ uy, uy = n * y := ⟨_, rfl⟩
                  have huy2 : uy ≤ 5 * 5 := by rw [huy]; exact Nat.mul_le_mul hn5 (by omega)
                  have hwuy : IntKind.i64.wrap ((n : Int) * (y : Int)) = (uy : Int) := by rw [← Int.natCast_mul, ← huy]; exact IntWalk.i64_in _ (by omega)
                  have HBw := Lib.hid (HBq.out.trans (HB6.out.mono hszq))
                  have HXw := Lib.hid (HX2.out.below HBw.out)
                  have HMv := Lib.hid (HMu.out wr w1.heap.size A1 c1 HXw.out (HP2.out.below HBw.out) m y (by omega) (by omega))
                  have hml := HLt.out m y
                  have hEq := HGd.out m b y
                  obtain ⟨t, ht⟩ : ∃ t, t = mulF p k poly m y := ⟨_, rfl⟩
                  rw [← ht] at HMv hml hEq
                  have HCv := Lib.hid (fun W hX => HCo.out W w1.heap.size A1 c1 hX t b hml (by omega))
                  have hcl := HLc.out t b
                  obtain ⟨z, hz⟩ : ∃ z, z = cmbF p k 1 t b := ⟨_, rfl⟩
                  rw [← hz] at HCv hcl hEq
                  have HLy := Lib.hid (lnT_len (fun y => n * y + g m b y) y)
                  have HSy := Lib.hid (show lnT (fun y => n * y + g m b y) (y + 1) = lnT (fun y => n * y + g m b y) y ++ [(uy : Int) + (z : Int)] by rw [lnT_succ, hEq, ← huy, Int.natCast_add])
                  have hz64 : z ≤ 64 := hcl
                  clear huy ht hz hEq hml hcl
                  go_wp2_with fail
                  refine (HMv.out).mono ?_
                  rintro e w5 ⟨rfl, hb5⟩
                  have HCw := Lib.hid (HCv.out w5 (HXw.out.below hb5))
                  have HO7 := Lib.hid (HO6.out.below hb5)
                  have HB7 := Lib.hid (HB6.out.trans (hb5.mono hsz6))
                  have hsz7 := HB7.out.size
                  clear hb5
                  go_wp2_with fail
                  refine (HCw.out).mono ?_
                  rintro e w7 ⟨rfl, hb7⟩
                  have HO8 := Lib.hid (HO7.out.below hb7)
                  have HB8 := Lib.hid (HB7.out.trans (hb7.mono hsz7))
                  have hsz8 := HB8.out.size
                  clear hb7
                  go_wp2_with (at_builtin; refine wpI_append rfl _ _ rfl wq.heap.size _ _ _ (lnT (fun y => n * y + g m b y) y) ((uy : Int) + (z : Int)) w7.heap.size rfl rfl HLy.out (HO8.out.alloc (.cells #[.int .i64 ((uy : Int) + (z : Int))] 2)) (World.cell?_alloc_at _ _ _ _ rfl) (by omega) (by simp; omega) ?_; intro A3 c3 w3 ho3 hg3 ha3)
                  have hB3 : Below wq.heap.size wq w3 := (HB8.out.alloc HB8.out.size (.cells #[.int .i64 ((uy : Int) + (z : Int))] 2)).trans (below_blk (HO8.out.alloc (.cells #[.int .i64 ((uy : Int) + (z : Int))] 2)) hg3 (Nat.le_refl _) (by simp; omega))
                  have HO3 := Lib.hid ho3
                  have HB3 := Lib.hid hB3
                  clear ho3 hg3 ha3 hB3
                  have HO9 := Lib.hid (show OwnI w3 wq.heap.size A3 c3 (lnT (fun y => n * y + g m b y) (y + 1)) from by rw [HSy.out]; exact HO3.out)
                  clear hwuy
                  go_wp2
                  go_roundw
                  case rel => exact ⟨y + 1, A3, c3, by omega, by go_num, rfl, HO9, HB3⟩
                  case measure => simp [intOf] <;> omega
                · obtain rfl : y = n := by omega
                  have HBz := Lib.hid (HBq.out.trans (HB6.out.mono hszq))
                  have HLc6 := Lib.hid (show (apS y g m b).length = y from lnT_len _ _)
                  have HOw := Lib.hid (show OwnI wr wq.heap.size A6 c6 (apS y g m b) from HO6.out)
                  have HOz := Lib.hid ((HO2.out.below HB6.out).alloc (.cells #[.slice A6 y c6] 37))
                  have HIz := Lib.hid ((HOw.out.lower (lo' := w2.heap.size) hszq).alloc (.cells #[.slice A6 y c6] 37))
                  have HAq := Lib.hid (later_apart HO2.out HOw.out)
                  go_wp2_with (at_builtin; refine wpM_append rfl _ _ rfl w2.heap.size _ _ _ R2 (apU y y ++ apL y g m ++ apB y g m b) A6 y c6 (apS y g m b) wr.heap.size rfl rfl HS2.out HLc6.out HOz.out HIz.out HAq.out (World.cell?_alloc_at _ _ _ _ rfl) (by omega) (by simp; omega) ?_; intro A9 c9 R9 w9 ho9 hg9 ha9)
                  have HB9 := Lib.hid ((HBz.out.alloc HBz.out.size (.cells #[.slice A6 y c6] 37)).trans (below_blkM HOz.out hg9 (Nat.le_refl _) (by simp; omega)))
                  have HO9 := Lib.hid (show OwnM w9 w2.heap.size A9 c9 R9 (apU y y ++ apL y g m ++ apB y g m (b + 1)) from by rw [apB_succ, ← List.append_assoc]; exact ho9)
                  have HS9 := Lib.hid (show (apU y y ++ apL y g m ++ apB y g m (b + 1)).length = s2 + 1 from by rw [apB_succ, ← List.append_assoc, List.length_append, HS2.out]; rfl)
                  clear ho9 hg9 ha9
                  go_wp2
                  go_roundw
                  case rel => exact ⟨b + 1, s2 + 1, _, _, _, by omega, by go_num, rfl, HS9, by omega, HO9, HB9⟩
                  case measure => simp [intOf] <;> omega
            · obtain rfl : b = n := by omega
              have HO9 := Lib.hid (show OwnM wr w2.heap.size A2 c2 R2 (apU b b ++ apL b g (m + 1)) from by rw [apL_succ, ← List.append_assoc]; exact HO2.out)
              have HS9 := Lib.hid (show (apU b b ++ apL b g (m + 1)).length = s2 from by rw [apL_succ, ← List.append_assoc]; exact HS2.out)
              go_wp2
              go_roundw
              case rel => exact ⟨m + 1, s2, _, _, _, by omega, by go_num, rfl, HS9, by omega, HO9, HBq⟩
              case measure => simp [intOf] <;> omega
        · obtain rfl : m = n := by omega
          have HSk := Lib.hid (HSo.out wr A' s c' R' HO.out.rd HS.out)
          have HZr := Lib.hid (HZ2.out.step (lo := w2.heap.size) (by omega) HB.out)
          have HBr := Lib.hid (HB2.out.trans (HB.out.mono HB2.out.size))
          have hszf := HB.out.size
          go_wp2_with fail
          refine (HSk.out).mono ?_
          rintro e w9 ⟨⟨A9, n9, c9, R9, rfl, hn9, ho9⟩, hb9⟩
          have HZ9 := Lib.hid (HZr.out.step (lo := wr.heap.size) (by omega) hb9)
          have HB9 := Lib.hid (HBr.out.trans (hb9.mono HBr.out.size))
          have HO9 := Lib.hid (show OwnM w9 (w.heap.size + 1) A9 c9 R9 lst from ho9.lower (by omega))
          have HN9 := Lib.hid hn9
          clear hb9 ho9 hn9
          have rz := HZ9.out
          have z0 := rz.c0
          have z1 := rz.c1
          have y0 := rz.f0
          have y1 := rz.f1
          clear rz
          go_wp2
          obtain ⟨r0, r1⟩ := HZ9.out.read (.int .i64 (N : Int)) (.slice A9 n9 c9)
          refine bodyPost_ret (v := .agg #[.int .i64 (N : Int), .slice A9 n9 c9]) (by simp [results, Try.results29, go_sem, r0, r1]) rfl ⟨⟨A9, n9, c9, R9, rfl, HN9.out, own_set2 HO9.out (by omega) _ _⟩, below_set2 HB9.out (by omega)⟩

set_option maxHeartbeats 8000000 in
set_option maxRecDepth 100000 in
theorem specAffinePlane_no (w : World) (q : Int) (hno : apOk q = false) : Calls Try.prog 11 #[.int .i64 q] w (PostDC w 0 [] 2) := by
  have hzD := zeroD
  obtain ⟨wa, hwa⟩ : ∃ wa, wa = w.alloc (.cells #[.int .i64 0, .slice none 0 0] 29) := ⟨_, rfl⟩
  have hZa : RBox wa w.heap.size := by rw [hwa]; exact RBox.made w 29
  have hBa : Below w.heap.size w wa := by rw [hwa]; exact below_boxed w (.cells #[.int .i64 0, .slice none 0 0] 29)
  have hsa : w.heap.size + 1 ≤ wa.heap.size := by rw [hwa]; simp
  have HZa := Lib.hid hZa
  have HBa := Lib.hid hBa
  have HWa := Lib.hid hwa
  have hSp := l03Split_c wa q
  rcases hb : fdB q with _ | _
  · rw [show fdV q = (0, 0) from if_neg (by rw [hb]; simp)] at hSp
    have HM := Lib.hid hSp
    clear hb hno hwa hZa hBa hSp
    go_enter Try.func11, Try.ntmps11
    go_wp2_with fail
    rw [← HWa.out]
    refine (HM.out).mono ?_
    rintro e w' ⟨rfl, rfl⟩
    have rz := HZa.out
    have z0 := rz.c0
    have z1 := rz.c1
    have y0 := rz.f0
    have y1 := rz.f1
    clear rz
    go_wp2
    obtain ⟨r0, r1⟩ := HZa.out.read (.int .i64 0) (.slice none 0 0)
    refine bodyPost_ret (v := .tuple #[.agg #[.int .i64 0, .slice none 0 0], .int .i64 2]) (by simp [results, Try.results11, go_sem, r0, r1]) rfl ⟨⟨none, 0, 0, fun _ => (none, 0), rfl, rfl, OwnM.nil_ _ _ _⟩, by first | exact HBa.out | exact below_set2 HBa.out (by omega)⟩
  · have hfs := fd_spec hb
    rw [show fdV q = ((fdP q : Int), (fdK q : Int)) from if_pos hb] at hSp
    have HM := Lib.hid hSp
    have hp2 : 2 ≤ fdP q := hfs.1.1
    have hpd : ((fdP q : Int) == 0) = false := by simp; omega
    have hsq : 0 ≤ q * q ∧ q * q ≤ 4096 := ⟨Int.mul_nonneg (by omega) (by omega), by have := Int.mul_le_mul hfs.2.2.2.2.2.2 hfs.2.2.2.2.2.2 (by omega) (by omega); omega⟩
    have hqq : 32 < q * q := by
      rcases Int.lt_or_le 32 (q * q) with h | h
      · exact h
      · have : apOk q = true := decide_eq_true ⟨hb, h⟩
        rw [hno] at this; cases this
    obtain ⟨Q, hQ⟩ : ∃ Q, Q = q * q := ⟨_, rfl⟩
    have hw1 : IntKind.i64.wrap (q * q) = Q := by rw [← hQ]; exact IntWalk.i64_in _ (by omega)
    rw [← hQ] at hqq
    generalize fdP q = p at *
    generalize fdK q = k at *
    clear hb hno hwa hZa hBa hfs hsq hQ hSp
    go_enter Try.func11, Try.ntmps11
    go_wp2_with fail
    rw [← HWa.out]
    refine (HM.out).mono ?_
    rintro e w' ⟨rfl, rfl⟩
    have rz := HZa.out
    have z0 := rz.c0
    have z1 := rz.c1
    have y0 := rz.f0
    have y1 := rz.f1
    clear rz
    go_wp2
    obtain ⟨r0, r1⟩ := HZa.out.read (.int .i64 0) (.slice none 0 0)
    refine bodyPost_ret (v := .tuple #[.agg #[.int .i64 0, .slice none 0 0], .int .i64 2]) (by simp [results, Try.results11, go_sem, r0, r1]) rfl ⟨⟨none, 0, 0, fun _ => (none, 0), rfl, rfl, OwnM.nil_ _ _ _⟩, by first | exact HBa.out | exact below_set2 HBa.out (by omega)⟩

set_option maxHeartbeats 8000000 in
set_option maxRecDepth 100000 in
theorem specAffinePlane_yes (w : World) (n : Nat) (hyes : apOk (n : Int) = true) : Calls Try.prog 11 #[.int .i64 (n : Int)] w (PostDC w ((n : Int) * (n : Int)) (sortLL (apI n (apG_ (n : Int)) n)) 0) := by
  obtain ⟨hb, hqq, hq2, hq5⟩ := apOk_nat hyes
  have hfs := fd_spec hb
  have hzD := zeroD
  obtain ⟨wa, hwa⟩ : ∃ wa, wa = w.alloc (.cells #[.int .i64 0, .slice none 0 0] 29) := ⟨_, rfl⟩
  have hZa : RBox wa w.heap.size := by rw [hwa]; exact RBox.made w 29
  have hBa : Below w.heap.size w wa := by rw [hwa]; exact below_boxed w (.cells #[.int .i64 0, .slice none 0 0] 29)
  have hsa : w.heap.size + 1 ≤ wa.heap.size := by rw [hwa]; simp
  have HZa := Lib.hid hZa
  have HBa := Lib.hid hBa
  have HWa := Lib.hid hwa
  have hSp := l03Split_c wa (n : Int)
  rw [show fdV (n : Int) = ((fdP (n : Int) : Int), (fdK (n : Int) : Int)) from if_pos hb] at hSp
  have HM := Lib.hid hSp
  have HPl := Lib.hid (l12Plane_c wa n hyes)
  have hp2 : 2 ≤ fdP (n : Int) := hfs.1.1
  have hpd : ((fdP (n : Int) : Int) == 0) = false := by simp; omega
  obtain ⟨Q, hQ⟩ : ∃ Q, Q = (n : Int) * (n : Int) := ⟨_, rfl⟩
  have hw1 : IntKind.i64.wrap ((n : Int) * (n : Int)) = Q := by rw [← hQ]; exact IntWalk.i64_in _ (by have : 0 ≤ (n : Int) * (n : Int) := Int.mul_nonneg (by omega) (by omega); omega)
  rw [← hQ] at hqq HPl ⊢
  have hq32 : ¬ (32 : Int) < Q := by omega
  generalize sortLL (apI n (apG_ (n : Int)) n) = lst at *
  generalize fdP (n : Int) = p at *
  generalize fdK (n : Int) = k at *
  clear hb hyes hwa hZa hBa hfs hQ hSp
  go_enter Try.func11, Try.ntmps11
  go_wp2_with fail
  rw [← HWa.out]
  refine (HM.out).mono ?_
  rintro e w' ⟨rfl, rfl⟩
  go_wp2_with fail
  refine (HPl.out).mono ?_
  rintro e w9 ⟨⟨A9, n9, c9, R9, rfl, hn9, ho9⟩, hb9⟩
  have HZ9 := Lib.hid (HZa.out.step (lo := wa.heap.size) (by omega) hb9)
  have HB9 := Lib.hid (HBa.out.trans (hb9.mono HBa.out.size))
  have HO9 := Lib.hid (show OwnM w9 (w.heap.size + 1) A9 c9 R9 lst from ho9.lower (by omega))
  have HN9 := Lib.hid hn9
  clear hb9 ho9 hn9
  have rz := HZ9.out
  have z0 := rz.c0
  have z1 := rz.c1
  have y0 := rz.f0
  have y1 := rz.f1
  clear rz
  go_wp2
  obtain ⟨r0, r1⟩ := HZ9.out.read (.int .i64 Q) (.slice A9 n9 c9)
  refine bodyPost_ret (v := .tuple #[.agg #[.int .i64 Q, .slice A9 n9 c9], .int .i64 0]) (by simp [results, Try.results11, go_sem, r0, r1]) rfl ⟨⟨A9, n9, c9, R9, rfl, HN9.out, own_set2 HO9.out (by omega) _ _⟩, below_set2 HB9.out (by omega)⟩
end Go.Proofs.Ytbbaeopobnpnmaa
