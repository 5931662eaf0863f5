/-
  AffinePlane of the program. Conditions: those of each theorem.
-/
import Derived.Test.YtbbaeopobnpnmaaApP
import Derived.Test.YtbbaeopobnpnmaaFldE
namespace Go.Proofs.Ytbbaeopobnpnmaa
open Go.RowKit
set_option linter.unusedVariables false
set_option linter.unusedSimpArgs false

theorem keep3F {w w' : World} {B : Nat} {v0 v1 v2 : Value} (hb : Below w.heap.size w w') (hB : B < w.heap.size) (h : w.cell? ⟨B, 0, none⟩ = some v0 ∧ w.cell? ⟨B, 1, none⟩ = some v1 ∧ w.cell? ⟨B, 2, none⟩ = some v2) :
    w'.cell? ⟨B, 0, none⟩ = some v0 ∧ w'.cell? ⟨B, 1, none⟩ = some v1 ∧ w'.cell? ⟨B, 2, none⟩ = some v2 :=
  ⟨(hb.cell (p := ⟨B, 0, none⟩) hB).trans h.1, (hb.cell (p := ⟨B, 1, none⟩) hB).trans h.2.1, (hb.cell (p := ⟨B, 2, none⟩) hB).trans h.2.2⟩
theorem keep3W {lo B : Nat} {w w' : World} {v0 v1 v2 : Value} (hb : Below lo w w') (hB : B < lo) (h : w.cell? ⟨B, 0, none⟩ = some v0 ∧ w.cell? ⟨B, 1, none⟩ = some v1 ∧ w.cell? ⟨B, 2, none⟩ = some v2) :
    w'.cell? ⟨B, 0, none⟩ = some v0 ∧ w'.cell? ⟨B, 1, none⟩ = some v1 ∧ w'.cell? ⟨B, 2, none⟩ = some v2 :=
  ⟨(hb.cell (p := ⟨B, 0, none⟩) hB).trans h.1, (hb.cell (p := ⟨B, 1, none⟩) hB).trans h.2.1, (hb.cell (p := ⟨B, 2, none⟩) hB).trans h.2.2⟩
theorem square_small {q : Int} (h1 : 0 ≤ q) (h2 : q ≤ 64) : 0 ≤ q * q ∧ q * q ≤ 4096 :=
  ⟨Int.mul_nonneg h1 h1, by have := Int.mul_le_mul h2 h2 h1 (by omega); omega⟩

set_option maxHeartbeats 8000000 in
set_option maxRecDepth 100000 in
theorem implAffinePlane_no (w : World) (q : Int) (hno : apOk q = false) : Calls Try.prog 12 #[.int .i64 q] w (PostDC w 0 [] 2) := by
  have hzD := zeroD
  obtain ⟨wa, hwa⟩ : ∃ wa, wa = w.alloc (.cells #[.int .i64 0, .slice none 0 0] 29) := ⟨_, rfl⟩
  have hZa : RBox wa w.heap.size := by rw [hwa]; exact RBox.made w 29
  have hBa : Below w.heap.size w wa := by rw [hwa]; exact below_boxed w (.cells #[.int .i64 0, .slice none 0 0] 29)
  have hsa : w.heap.size + 1 ≤ wa.heap.size := by rw [hwa]; simp
  have HZa := Lib.hid hZa
  have HBa := Lib.hid hBa
  have HWa := Lib.hid hwa
  rcases hb : fdB q with _ | _
  · have HM := Lib.hid (MakeField_no wa q hb)
    clear hb hno hwa hZa hBa
    go_enter Try.func12, Try.ntmps12
    go_wp2_with fail
    rw [← HWa.out]
    refine (HM.out).mono ?_
    rintro e w1 ⟨⟨A1, n1, c1, rfl, hn1, ho1⟩, hb1⟩
    have hbb : Below wa.heap.size wa (w1.alloc (.cells #[.int .i64 (0), .int .i64 (0), .slice A1 n1 c1] 39)) := hb1.alloc hb1.size _
    have HZ2 := Lib.hid (HZa.out.step (lo := wa.heap.size) (by omega) hbb)
    have HB2 := Lib.hid (HBa.out.trans (hbb.mono HBa.out.size))
    clear hbb hb1 ho1 hn1
    have rz := HZ2.out
    have z0 := rz.c0
    have z1 := rz.c1
    have y0 := rz.f0
    have y1 := rz.f1
    clear rz
    go_wp2
    obtain ⟨r0, r1⟩ := HZ2.out.read (.int .i64 0) (.slice none 0 0)
    refine bodyPost_ret (v := .tuple #[.agg #[.int .i64 0, .slice none 0 0], .int .i64 2]) (by simp [results, Try.results12, go_sem, r0, r1]) rfl ⟨⟨none, 0, 0, fun _ => (none, 0), rfl, rfl, OwnM.nil_ _ _ _⟩, by first | exact HB2.out | exact below_set2 HB2.out (by omega)⟩
  · have hfs := fd_spec hb
    have HM := Lib.hid (MakeField_ok wa q hb)
    have hsq := square_small (q := q) (by omega) hfs.2.2.2.2.2.2
    have hqq : 32 < q * q := by
      rcases Int.lt_or_le 32 (q * q) with h | h
      · exact h
      · have : apOk q = true := decide_eq_true ⟨hb, h⟩
        rw [hno] at this; cases this
    obtain ⟨Q, hQ⟩ : ∃ Q, Q = q * q := ⟨_, rfl⟩
    have hw1 : IntKind.i64.wrap (q * q) = Q := by rw [← hQ]; exact IntWalk.i64_in _ (by omega)
    rw [← hQ] at hqq
    generalize fdP q = p at *
    generalize fdK q = k at *
    clear hb hno hwa hZa hBa hfs hsq hQ
    go_enter Try.func12, Try.ntmps12
    go_wp2_with fail
    rw [← HWa.out]
    refine (HM.out).mono ?_
    rintro e w1 ⟨⟨A1, n1, c1, rfl, hn1, ho1⟩, hb1⟩
    have hbb : Below wa.heap.size wa (w1.alloc (.cells #[.int .i64 ((p : Int)), .int .i64 ((k : Int)), .slice A1 n1 c1] 39)) := hb1.alloc hb1.size _
    have HZ2 := Lib.hid (HZa.out.step (lo := wa.heap.size) (by omega) hbb)
    have HB2 := Lib.hid (HBa.out.trans (hbb.mono HBa.out.size))
    clear hbb hb1 ho1 hn1
    have rz := HZ2.out
    have z0 := rz.c0
    have z1 := rz.c1
    have y0 := rz.f0
    have y1 := rz.f1
    clear rz
    go_wp2
    obtain ⟨r0, r1⟩ := HZ2.out.read (.int .i64 0) (.slice none 0 0)
    refine bodyPost_ret (v := .tuple #[.agg #[.int .i64 0, .slice none 0 0], .int .i64 2]) (by simp [results, Try.results12, go_sem, r0, r1]) rfl ⟨⟨none, 0, 0, fun _ => (none, 0), rfl, rfl, OwnM.nil_ _ _ _⟩, by first | exact HB2.out | exact below_set2 HB2.out (by omega)⟩

set_option maxHeartbeats 16000000 in
set_option maxRecDepth 100000 in
theorem implAffinePlane_yes (w : World) (n : Nat) (hyes : apOk (n : Int) = true) : Calls Try.prog 12 #[.int .i64 (n : Int)] w (PostDC w ((n : Int) * (n : Int)) (sortLL (apI n (apG_ (n : Int)) n)) 0) := by
  obtain ⟨hb, hqq, hq2, hq5⟩ := apOk_nat hyes
  have hn5 : n ≤ 5 := by omega
  have hn2 : 2 ≤ n := by omega
  have hV := fdY_valid hb
  have hzD := zeroD
  obtain ⟨wa, hwa⟩ : ∃ wa, wa = w.alloc (.cells #[.int .i64 0, .slice none 0 0] 29) := ⟨_, rfl⟩
  have hZa : RBox wa w.heap.size := by rw [hwa]; exact RBox.made w 29
  have hBa : Below w.heap.size w wa := by rw [hwa]; exact below_boxed w (.cells #[.int .i64 0, .slice none 0 0] 29)
  have hsa : w.heap.size + 1 ≤ wa.heap.size := by rw [hwa]; simp
  have HZa := Lib.hid hZa
  have HBa := Lib.hid hBa
  have HWa := Lib.hid hwa
  have HM := Lib.hid (MakeField_ok wa (n : Int) hb)
  obtain ⟨g, hg⟩ : ∃ g, g = apG_ (n : Int) := ⟨_, rfl⟩
  have hgd : ∀ m b x, g m b x = cmbF (fdP (n : Int)) (fdK (n : Int)) 1 (mulF (fdP (n : Int)) (fdK (n : Int)) (fdY (n : Int)) m x) b := fun m b x => by rw [hg]; rfl
  rw [← hg]
  generalize fdP (n : Int) = p at *
  generalize fdK (n : Int) = k at *
  generalize fdY (n : Int) = poly at *
  have hF := hV.ok
  have HPl := Lib.hid hV.len
  have HGd := Lib.hid hgd
  have HMu := Lib.hid (fun W A c (hr : RdI W A c poly) (a b : Nat) (ha : a ≤ 64) (hb : b ≤ 64) => product_c W p k A (k + 1) c a b poly hF (by omega) (by omega) hr hV.len (Nat.le_refl _) (Nat.le_refl _) hV.dig)
  have HCo := Lib.hid (fun W A c (a b : Nat) (ha : a ≤ 64) (hb : b ≤ 64) => combine_c W p k A (k + 1) c a b 1 hF (by omega) (by omega) (by omega) (by omega))
  have HLt := Lib.hid (fun a b => show mulF p k poly a b ≤ 64 from by
    have h1 := (mulF_eq (k := k) (show 0 < p by have := hF.1; omega) (show 0 < k by have := hF.2.2.1; omega) poly a b).2
    have h2 := hF.2.2.2.2
    omega)
  have HLc := Lib.hid (fun a b => show cmbF p k 1 a b ≤ 64 from by
    have h1 := (cmbF_eq (k := k) (show 0 < p by have := hF.1; omega) 1 a b).2
    have h2 := hF.2.2.2.2
    omega)
  have hl30 : (apI n g n).length ≤ 30 := by
    rw [apI_len]
    have : n * (n + 1) ≤ 5 * 6 := Nat.mul_le_mul hn5 (by omega)
    omega
  obtain ⟨N, hN⟩ : ∃ N, N = n * n := ⟨_, rfl⟩
  have hN25 : N ≤ 5 * 5 := by rw [hN]; exact Nat.mul_le_mul hn5 hn5
  have hwN : IntKind.i64.wrap ((n : Int) * (n : Int)) = (N : Int) := by rw [← Int.natCast_mul, ← hN]; exact IntWalk.i64_in _ (by omega)
  rw [show (n : Int) * (n : Int) = (N : Int) by rw [← Int.natCast_mul, ← hN]]
  have HSo := Lib.hid (fun (W : World) (A : Option Addr) (s c : Nat) (R : Spine) (hr : RdM W A c R (apI n g n)) (hn : (apI n g n).length = s) => by
    have := sorted_c W (N : Int) A s c R (apI n g n) hr hn (by omega) (fun i hi => by
      have := apI_rows (n := n) (g := g) (m := n) (r := row (apI n g n) i) (by rw [row_eq (by omega)]; exact List.getElem_mem _)
      omega)
    rwa [show mkP (N : Int) (apI n g n) = (N : Int) from if_pos (by omega), show mkL (apI n g n) = sortLL (apI n g n) from if_pos (by omega), show mkC (apI n g n) = 0 from if_pos (by omega)] at this)
  generalize sortLL (apI n g n) = lst at *
  clear hyes hb hqq hV hg hgd hF hwa hZa hBa hN hl30
  go_enter Try.func12, Try.ntmps12
  go_wp2_with fail
  rw [← HWa.out]
  refine (HM.out).mono ?_
  rintro e w1 ⟨⟨A1, n1, c1, rfl, hn1, ho1⟩, hb1⟩
  obtain rfl : k + 1 = n1 := HPl.out.symm.trans hn1
  obtain ⟨w2, hw2⟩ : ∃ w2, w2 = w1.alloc (.cells #[.int .i64 (p : Int), .int .i64 (k : Int), .slice A1 (k + 1) c1] 39) := ⟨_, rfl⟩
  have HX2 := Lib.hid (show FldC w2 w1.heap.size p k A1 (k + 1) c1 from by rw [hw2]; exact FldC.made w1 p k A1 (k + 1) c1 39)
  have hb2 : Below w1.heap.size w1 w2 := by rw [hw2]; exact below_boxed w1 _
  have HP2 := Lib.hid (ho1.rd.below hb2)
  have hb12 : Below wa.heap.size wa w2 := hb1.trans (hb2.mono hb1.size)
  have HZ2 := Lib.hid (HZa.out.step (lo := wa.heap.size) (by omega) hb12)
  have HB2 := Lib.hid (HBa.out.trans (hb12.mono HBa.out.size))
  have hs2 := hb12.size
  have HW2 := Lib.hid hw2
  clear hb1 ho1 hn1 hb2 hw2 hb12
  have HO0 := Lib.hid (OwnM.nil_ w2 w2.heap.size (fun _ => (none, 0)))
  go_wp2
  rw [← HW2.out]
  go_loopw [6, 28] (fun o v wr => ∃ (m s : Nat) (A' : Option Addr) (c' : Nat) (R' : Spine), m ≤ n ∧ v = .int .i64 m ∧ o = .slice A' s c' ∧ Hid ((apI n g m).length = s) ∧ s ≤ 6 * m ∧ Hid (OwnM wr w2.heap.size A' c' R' (apI n g m)) ∧ Hid (Below w2.heap.size w2 wr)) (fun _ v _ => n - (intOf v).toNat)
  case atStart => exact ⟨0, 0, _, _, _, Nat.zero_le _, rfl, rfl, Lib.hid rfl, Nat.zero_le _, HO0, Lib.hid (Below.refl _ _)⟩
  case round =>
    obtain ⟨m, s, A', c', R', hm, rfl, rfl, HS, hs, HO, HB⟩ := hrel
    have hszr := HB.out.size
    by_cases hmn : m < n
    · have hm0 : (0 : Int) ≤ (m : Int) := by omega
      have hm1 : (m : Int) < (n : Int) := by omega
      obtain ⟨um, hum⟩ : ∃ um, um = n * m := ⟨_, rfl⟩
      have hum2 : um ≤ 5 * 5 := by rw [hum]; exact Nat.mul_le_mul hn5 (by omega)
      have hwum : IntKind.i64.wrap ((n : Int) * (m : Int)) = (um : Int) := by rw [← Int.natCast_mul, ← hum]; exact IntWalk.i64_in _ (by omega)
      have HV0 := Lib.hid (show OwnI wr wr.heap.size none 0 (lnT (fun x => n * m + x) 0) from OwnI.nil_ _ _)
      have HUm := Lib.hid hum
      clear hum
      obtain ⟨wo, rfl⟩ : ∃ wo, wo = wr := ⟨_, rfl⟩
      go_wp2
      go_loopw [8, 32] (fun o v wr => ∃ (x : Nat) (A' : Option Addr) (c' : Nat), x ≤ n ∧ v = .int .i64 x ∧ o = .slice A' x c' ∧ Hid (OwnI wr wo.heap.size A' c' (lnT (fun x => n * m + x) x)) ∧ Hid (Below wo.heap.size wo wr)) (fun _ v _ => n - (intOf v).toNat)
      case atStart => exact ⟨0, none, 0, Nat.zero_le _, rfl, rfl, HV0, Lib.hid (Below.refl _ _)⟩
      case round =>
        obtain ⟨x, A5, c5, hx, rfl, rfl, HO5, HB5⟩ := hrel
        have hsz5 := HB5.out.size
        by_cases hxn : x < n
        · have hx0 : (0 : Int) ≤ (x : Int) := by omega
          have hx1 : (x : Int) < (n : Int) := by omega
          have HLx := Lib.hid (lnT_len (fun x => n * m + x) x)
          have HSx := Lib.hid (show lnT (fun x => n * m + x) (x + 1) = lnT (fun x => n * m + x) x ++ [(um : Int) + (x : Int)] by rw [lnT_succ, ← HUm.out, Int.natCast_add])
          go_wp2_with (at_builtin; refine wpI_append rfl _ _ rfl wo.heap.size _ _ _ (lnT (fun x => n * m + x) x) ((um : Int) + (x : Int)) wr.heap.size rfl rfl HLx.out (HO5.out.alloc (.cells #[.int .i64 ((um : Int) + (x : Int))] 2)) (World.cell?_alloc_at _ _ _ _ rfl) (by omega) (by simp; omega) ?_; intro A3 c3 w3 ho3 hg3 ha3)
          have hB3 : Below wo.heap.size wo w3 := (HB5.out.alloc HB5.out.size (.cells #[.int .i64 ((um : Int) + (x : Int))] 2)).trans (below_blk (HO5.out.alloc (.cells #[.int .i64 ((um : Int) + (x : Int))] 2)) hg3 (Nat.le_refl _) (by simp; omega))
          have HO3 := Lib.hid ho3
          have HB3 := Lib.hid hB3
          clear ho3 hg3 ha3 hB3
          have HO6 := Lib.hid (show OwnI w3 wo.heap.size A3 c3 (lnT (fun x => n * m + x) (x + 1)) from by rw [HSx.out]; exact HO3.out)
          go_wp2
          go_roundw
          case rel => exact ⟨x + 1, A3, c3, by omega, by go_num, rfl, HO6, HB3⟩
          case measure => simp [intOf] <;> omega
        · obtain rfl : x = n := by omega
          have HBx := Lib.hid (HB.out.trans (HB5.out.mono hszr))
          have HLc5 := Lib.hid (show (apV x m).length = x from lnT_len _ _)
          have HOv := Lib.hid (show OwnI wr wo.heap.size A5 c5 (apV x m) from HO5.out)
          have HOx := Lib.hid ((HO.out.below HB5.out).alloc (.cells #[.slice A5 x c5] 37))
          have HIx := Lib.hid ((HOv.out.lower (lo' := w2.heap.size) hszr).alloc (.cells #[.slice A5 x c5] 37))
          have HAp := Lib.hid (later_apart HO.out HOv.out)
          go_wp2_with (at_builtin; refine wpM_append rfl _ _ rfl w2.heap.size _ _ _ R' (apI x g m) A5 x c5 (apV x m) wr.heap.size rfl rfl HS.out HLc5.out HOx.out HIx.out HAp.out (World.cell?_alloc_at _ _ _ _ rfl) (by omega) (by simp; omega) ?_; intro A9 c9 R9 w9 ho9 hg9 ha9)
          have HB9 := Lib.hid ((HBx.out.alloc HBx.out.size (.cells #[.slice A5 x c5] 37)).trans (below_blkM HOx.out hg9 (Nat.le_refl _) (by simp; omega)))
          have HO9 := Lib.hid (show OwnM w9 w2.heap.size A9 c9 R9 (apI x g m ++ [apV x m] ++ apB x g m 0) from by simpa [apB] using ho9)
          have HS9 := Lib.hid (show (apI x g m ++ [apV x m] ++ apB x g m 0).length = s + 1 from by simp [apB, HS.out])
          clear ho9 hg9 ha9
          go_wp2
          go_loopw [6, 49] (fun o v wr => ∃ (b s2 : Nat) (A' : Option Addr) (c' : Nat) (R' : Spine), b ≤ x ∧ v = .int .i64 b ∧ o = .slice A' s2 c' ∧ Hid ((apI x g m ++ [apV x m] ++ apB x g m b).length = s2) ∧ s2 ≤ s + 1 + b ∧ Hid (OwnM wr w2.heap.size A' c' R' (apI x g m ++ [apV x m] ++ apB x g m b)) ∧ Hid (Below w2.heap.size w2 wr)) (fun _ v _ => x - (intOf v).toNat)
          case atStart => exact ⟨0, s + 1, _, _, _, Nat.zero_le _, rfl, rfl, HS9, by omega, HO9, HB9⟩
          case round =>
            obtain ⟨b, s2, A2, c2, R2, hbx, rfl, rfl, HS2, hs2', HO2, HBq⟩ := hrel
            have hszq := HBq.out.size
            by_cases hbn : b < x
            · have hb0 : (0 : Int) ≤ (b : Int) := by omega
              have hb1 : (b : Int) < (x : Int) := by omega
              have HW0 := Lib.hid (show OwnI wr wr.heap.size none 0 (lnT (fun y => x * y + g m b y) 0) from OwnI.nil_ _ _)
              obtain ⟨wq, rfl⟩ : ∃ wq, wq = wr := ⟨_, rfl⟩
              go_wp2
              go_loopw [11, 53] (fun o v wr => ∃ (y : Nat) (A' : Option Addr) (c' : Nat), y ≤ x ∧ v = .int .i64 y ∧ o = .slice A' y c' ∧ Hid (OwnI wr wq.heap.size A' c' (lnT (fun y => x * y + g m b y) y)) ∧ Hid (Below wq.heap.size wq wr)) (fun _ v _ => x - (intOf v).toNat)
              case atStart => exact ⟨0, none, 0, Nat.zero_le _, rfl, rfl, HW0, Lib.hid (Below.refl _ _)⟩
              case round =>
                obtain ⟨y, A6, c6, hyx, rfl, rfl, HO6, HB6⟩ := hrel
                have hsz6 := HB6.out.size
                by_cases hyn : y < x
                · have hy0 : (0 : Int) ≤ (y : Int) := by omega
                  have hy1 : (y : Int) < (x : Int) := by omega
                  obtain ⟨uy, huy⟩ : ∃ uy, uy = x * y := ⟨_, rfl⟩
                  have huy2 : uy ≤ 5 * 5 := by rw [huy]; exact Nat.mul_le_mul hn5 (by omega)
                  have hwuy : IntKind.i64.wrap ((x : Int) * (y : Int)) = (uy : Int) := by rw [← Int.natCast_mul, ← huy]; exact IntWalk.i64_in _ (by omega)
                  have HBw := Lib.hid (HBq.out.trans (HB6.out.mono hszq))
                  have hc := (show wr.cell? ⟨w1.heap.size, 0, none⟩ = _ ∧ wr.cell? ⟨w1.heap.size, 1, none⟩ = _ ∧ wr.cell? ⟨w1.heap.size, 2, none⟩ = _ from ⟨(HX2.out.below HBw.out).c0, (HX2.out.below HBw.out).c1, (HX2.out.below HBw.out).c2⟩)
                  have hlw := (HX2.out.below HBw.out).lt
                  have HMv := Lib.hid (HMu.out wr.drew A1 c1 ((HP2.out.below HBw.out).drewN 1) m y (by omega) (by omega))
                  have hml := HLt.out m y
                  have hEq := HGd.out m b y
                  obtain ⟨t, ht⟩ : ∃ t, t = mulF p k poly m y := ⟨_, rfl⟩
                  rw [← ht] at HMv hml hEq
                  have HCv := Lib.hid (fun W => HCo.out W A1 c1 t b hml (by omega))
                  have hcl := HLc.out t b
                  obtain ⟨z, hz⟩ : ∃ z, z = cmbF p k 1 t b := ⟨_, rfl⟩
                  rw [← hz] at HCv hcl hEq
                  have HLy := Lib.hid (lnT_len (fun y => x * y + g m b y) y)
                  have HSy := Lib.hid (show lnT (fun y => x * y + g m b y) (y + 1) = lnT (fun y => x * y + g m b y) y ++ [(uy : Int) + (z : Int)] by rw [lnT_succ, hEq, ← huy, Int.natCast_add])
                  have hwz : IntKind.i64.wrap ((uy : Int) + (z : Int)) = (uy : Int) + (z : Int) := IntWalk.i64_in _ (by omega)
                  have HO6d := Lib.hid (HO6.out.drewN 1)
                  have hszd : wq.heap.size ≤ wr.drew.heap.size := hsz6
                  clear huy ht hz hEq hml hcl
                  go_wp2
                  go_region_held3 (fun w' => w'.cell? ⟨w1.heap.size, 0, none⟩ = some (.int .i64 (p : Int)) ∧ w'.cell? ⟨w1.heap.size, 1, none⟩ = some (.int .i64 (k : Int)) ∧ w'.cell? ⟨w1.heap.size, 2, none⟩ = some (.slice A1 (k + 1) c1)) (first | exact hc | exact hS5 | exact hS6 | exact hS7 | exact hS8)
                    (first | (go_at_call 30; (with_reducible refine (HMv.out).mono ?_); rintro e w5 ⟨rfl, hb5⟩; have hS5 := keep3F hb5 hlw hc; have hz5 := hb5.size; have hlw5 := Nat.lt_of_lt_of_le hlw hz5) | (go_at_call 25; (with_reducible refine (HCv.out w5).mono ?_); rintro e w6 ⟨rfl, hb6⟩; have hS6 := keep3F hb6 hlw5 hS5; have hz6 := hb6.size; have hb56 := hb5.trans (hb6.mono hz5); have hS7 := keep3F ((Below.refl w6.heap.size w6).alloc (Nat.le_refl _) (.cells #[.int .i64 ((uy : Int) + (z : Int))] 2)) (Nat.lt_of_lt_of_le hlw5 hz6) hS6) | (refine stepI_append rfl _ _ rfl wq.heap.size A6 c6 y (lnT (fun y => x * y + g m b y) y) ((uy : Int) + (z : Int)) w6.heap.size (by rfl) (by rfl) HLy.out ((HO6d.out.below hb56).alloc (.cells #[.int .i64 ((uy : Int) + (z : Int))] 2)) (World.cell?_alloc_at _ _ _ _ rfl) (by omega) (Nat.le_trans hszd (Nat.le_trans hb56.size (by simp))) ?_; intro A8 c8 w8 ho8 hg8 ha8; have hb8 : Below wq.heap.size wr.drew w8 := ((hb56.mono hszd).alloc (Nat.le_trans hszd hb56.size) (.cells #[.int .i64 ((uy : Int) + (z : Int))] 2)).trans (below_blk ((HO6d.out.below hb56).alloc (.cells #[.int .i64 ((uy : Int) + (z : Int))] 2)) hg8 (Nat.le_refl _) (Nat.le_trans hszd (Nat.le_trans hb56.size (by simp)))); have hS8 := keep3W hb8 (Nat.lt_of_lt_of_le (HX2.out.lt) hszq) hc))
                  have HB8 := Lib.hid (show Below wq.heap.size wq w8 from HB6.out.drew.trans hb8)
                  have HO8 := Lib.hid (show OwnI w8 wq.heap.size A8 c8 (lnT (fun y => x * y + g m b y) (y + 1)) from by rw [HSy.out]; exact ho8)
                  clear ho8 hg8 ha8 hb8 hb5 hb6 hb56 hS5 hS6 hS7 hS8 hc hwuy hwz
                  go_wp2
                  go_roundw
                  case rel => exact ⟨y + 1, A8, c8, by omega, by go_num, rfl, HO8, HB8⟩
                  case measure => simp [intOf] <;> omega
                · obtain rfl : y = x := by omega
                  have HBz := Lib.hid (HBq.out.trans (HB6.out.mono hszq))
                  have HLc6 := Lib.hid (show (apS y g m b).length = y from lnT_len _ _)
                  have HOw := Lib.hid (show OwnI wr wq.heap.size A6 c6 (apS y g m b) from HO6.out)
                  have HOz := Lib.hid ((HO2.out.below HB6.out).alloc (.cells #[.slice A6 y c6] 37))
                  have HIz := Lib.hid ((HOw.out.lower (lo' := w2.heap.size) hszq).alloc (.cells #[.slice A6 y c6] 37))
                  have HAq := Lib.hid (later_apart HO2.out HOw.out)
                  go_wp2_with (at_builtin; refine wpM_append rfl _ _ rfl w2.heap.size _ _ _ R2 (apI y g m ++ [apV y m] ++ apB y g m b) A6 y c6 (apS y g m b) wr.heap.size rfl rfl HS2.out HLc6.out HOz.out HIz.out HAq.out (World.cell?_alloc_at _ _ _ _ rfl) (by omega) (by simp; omega) ?_; intro A9 c9 R9 w9 ho9 hg9 ha9)
                  have HB9 := Lib.hid ((HBz.out.alloc HBz.out.size (.cells #[.slice A6 y c6] 37)).trans (below_blkM HOz.out hg9 (Nat.le_refl _) (by simp; omega)))
                  have HO9 := Lib.hid (show OwnM w9 w2.heap.size A9 c9 R9 (apI y g m ++ [apV y m] ++ apB y g m (b + 1)) from by rw [apB_succ, ← List.append_assoc]; exact ho9)
                  have HS9 := Lib.hid (show (apI y g m ++ [apV y m] ++ apB y g m (b + 1)).length = s2 + 1 from by rw [apB_succ, ← List.append_assoc, List.length_append, HS2.out]; rfl)
                  clear ho9 hg9 ha9
                  go_wp2
                  go_roundw
                  case rel => exact ⟨b + 1, s2 + 1, _, _, _, by omega, by go_num, rfl, HS9, by omega, HO9, HB9⟩
                  case measure => simp [intOf] <;> omega
            · obtain rfl : b = x := by omega
              have HO9 := Lib.hid (show OwnM wr w2.heap.size A2 c2 R2 (apI b g (m + 1)) from by rw [apI_succ]; exact HO2.out)
              have HS9 := Lib.hid (show (apI b g (m + 1)).length = s2 from by rw [apI_succ]; exact HS2.out)
              go_wp2
              go_roundw
              case rel => exact ⟨m + 1, s2, _, _, _, by omega, by go_num, rfl, HS9, by omega, HO9, HBq⟩
              case measure => simp [intOf] <;> omega
    · obtain rfl : m = n := by omega
      have HSk := Lib.hid (HSo.out wr A' s c' R' HO.out.rd HS.out)
      have HZr := Lib.hid (HZ2.out.step (lo := w2.heap.size) (by omega) HB.out)
      have HBr := Lib.hid (HB2.out.trans (HB.out.mono HB2.out.size))
      go_wp2_with fail
      refine (HSk.out).mono ?_
      rintro e w9 ⟨⟨A9, n9, c9, R9, rfl, hn9, ho9⟩, hb9⟩
      have HZ9 := Lib.hid (HZr.out.step (lo := wr.heap.size) (by omega) hb9)
      have HB9 := Lib.hid (HBr.out.trans (hb9.mono HBr.out.size))
      have HO9 := Lib.hid (show OwnM w9 (w.heap.size + 1) A9 c9 R9 lst from ho9.lower (by omega))
      have HN9 := Lib.hid hn9
      clear hb9 ho9 hn9
      have rz := HZ9.out
      have z0 := rz.c0
      have z1 := rz.c1
      have y0 := rz.f0
      have y1 := rz.f1
      clear rz
      go_wp2
      obtain ⟨r0, r1⟩ := HZ9.out.read (.int .i64 (N : Int)) (.slice A9 n9 c9)
      refine bodyPost_ret (v := .tuple #[.agg #[.int .i64 (N : Int), .slice A9 n9 c9], .int .i64 0]) (by simp [results, Try.results12, go_sem, r0, r1]) rfl ⟨⟨A9, n9, c9, R9, rfl, HN9.out, own_set2 HO9.out (by omega) _ _⟩, below_set2 HB9.out (by omega)⟩
end Go.Proofs.Ytbbaeopobnpnmaa
