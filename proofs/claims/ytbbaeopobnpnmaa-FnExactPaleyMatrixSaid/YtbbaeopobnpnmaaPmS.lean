/-
  PaleyMatrix of the reference. Conditions: those of each theorem.
-/
import Derived.Test.YtbbaeopobnpnmaaPmP
namespace Go.Proofs.Ytbbaeopobnpnmaa
open Go.RowKit
set_option linter.unusedVariables false
set_option linter.unusedSimpArgs false

theorem lit1I (w : World) (x : Int) {lo : Nat} (h : lo ≤ w.heap.size) : OwnI (w.alloc (.cells #[.int .i64 x] 2)) lo (some ⟨w.heap.size, 0, none⟩) 1 [x] :=
  World.ownsRow_lit (e := 2) (size := 1) w #[.int .i64 x] 1 h (by unfold maxLen; omega) rfl
theorem lit1M {w : World} {lo : Nat} {A : Option Addr} {c n : Nat} {xs : List Int} (hr : OwnI w lo A c xs) (hn : xs.length = n) (h : lo ≤ w.heap.size) : OwnM (w.alloc (.cells #[.slice A n c] 37)) lo (some ⟨w.heap.size, 0, none⟩) 1 (fun _ => (A, c)) [xs] := by
  subst hn
  exact ⟨World.ownsRow_lit (e := 37) (size := 1) w #[.slice A xs.length c] 1 h (by unfold maxLen; omega) rfl, fun k hk => by
    obtain rfl : k = 0 := by simp at hk; omega
    exact hr.alloc _, fun i j hij hj => by simp at hj; omega⟩

set_option maxHeartbeats 8000000 in
set_option maxRecDepth 10000 in
theorem l15Paley_c (w : World) (n : Nat) (hb : fdB (n : Int) = true) (hn31 : n ≤ 31) :
    Calls Try.prog 19 #[.int .i64 (n : Int)] w (PostM w (pmX (fdP (n : Int)) (fdK (n : Int)) (pmSq (n : Int)) n n)) := by
  have hfs := fd_spec hb
  have hV := fdY_valid hb
  have hM := l03Make_c w (n : Int) hb
  have hEs : pmSq (n : Int) = putsL (fsqL (fdP (n : Int)) (fdK (n : Int)) (fdY (n : Int)) (fdP (n : Int) ^ fdK (n : Int) - 1)) := rfl
  generalize fdP (n : Int) = p at *
  generalize fdK (n : Int) = k at *
  generalize fdY (n : Int) = poly at *
  have HM := Lib.hid hM
  have hF := hV.ok
  have HPl := Lib.hid hV.len
  have HSq := Lib.hid (fun W Bf A c (hX : FldC W Bf p k A (k + 1) c) (hr : RdI W A c poly) => l03Squares_c W Bf p k A (k + 1) c poly hX hF hr hV.len (Nat.le_refl _) (Nat.le_refl _) hV.dig)
  rw [← hEs] at HSq
  generalize pmSq (n : Int) = sq at *
  have HSu := Lib.hid (fun W Bf A c (hX : FldC W Bf p k A (k + 1) c) (a b : Nat) (ha : a ≤ 64) (hb : b ≤ 64) => show Calls Try.prog 39 #[.pointer (some ⟨Bf, 0, none⟩), .int .i64 (a : Int), .int .i64 (b : Int), .int .i64 ((p : Int) - 1)] W (PostV W (.int .i64 ((cmbF p k (-1) a b : Nat) : Int))) from by
    have := l03Sum_c W Bf p k A (k + 1) c a b ((p : Int) - 1) hX hF (by omega) (by omega) (by have := hF.1; omega) (by have := hF.2.1; omega)
    rwa [cmbF_sign] at this)
  have hp1 : 2 ≤ p := hF.1
  have hp2 : p ≤ 64 := hF.2.1
  have hwp : IntKind.i64.wrap ((p : Int) - 1) = (p : Int) - 1 := IntWalk.i64_in _ (by omega)
  clear hfs hV hM hEs hF hb
  go_enter Try.func19, Try.ntmps19
  go_wp2_with fail
  refine (HM.out).mono ?_
  rintro e w1 ⟨⟨A1, n1, c1, rfl, hn1, ho1⟩, hb1⟩
  obtain rfl : k + 1 = n1 := HPl.out.symm.trans hn1
  obtain ⟨w2, hw2⟩ : ∃ w2, w2 = w1.alloc (.cells #[.int .i64 (p : Int), .int .i64 (k : Int), .slice A1 (k + 1) c1] 39) := ⟨_, rfl⟩
  have HX2 := Lib.hid (show FldC w2 w1.heap.size p k A1 (k + 1) c1 from by rw [hw2]; exact FldC.made w1 p k A1 (k + 1) c1 39)
  have hb2 : Below w1.heap.size w1 w2 := by rw [hw2]; exact below_boxed w1 _
  have HB2 := Lib.hid (hb1.trans (hb2.mono hb1.size))
  have HS2 := Lib.hid (HSq.out w2 w1.heap.size A1 c1 HX2.out (ho1.rd.below hb2))
  have HW2 := Lib.hid hw2
  clear hb1 ho1 hn1 hb2 hw2
  go_wp2_with fail
  rw [← HW2.out]
  refine (HS2.out).mono ?_
  rintro e w3 ⟨⟨As, ns, cs, rfl, hns, hos⟩, hb3⟩
  have HX3 := Lib.hid (HX2.out.below hb3)
  have HB3 := Lib.hid (HB2.out.trans (hb3.mono HB2.out.size))
  have HSr := Lib.hid hos.rd
  have HSn := Lib.hid hns
  have HF0 := Lib.hid (lit1I w3 1 (Nat.le_refl w3.heap.size))
  have HFb := Lib.hid (below_boxed w3 (.cells #[.int .i64 1] 2))
  clear hb3 hos hns
  go_wp2
  go_loopw [5, 6] (fun o v wr => ∃ (x : Nat) (A' : Option Addr) (c' : Nat), x ≤ n ∧ v = .int .i64 x ∧ o = .slice A' (x + 1) c' ∧ Hid (OwnI wr w3.heap.size A' c' (1 :: List.replicate x 1)) ∧ Hid (Below w3.heap.size w3 wr)) (fun _ v _ => n - (intOf v).toNat)
  case atStart => exact ⟨0, _, _, Nat.zero_le _, rfl, rfl, HF0, HFb⟩
  case round =>
    obtain ⟨x, A', c', hx, rfl, rfl, HO, HB⟩ := hrel
    have hszr := HB.out.size
    by_cases hxn : x < n
    · have HLx := Lib.hid (show (1 :: List.replicate x (1 : Int)).length = x + 1 by simp)
      have HNx := Lib.hid (show (1 :: List.replicate x (1 : Int)) ++ [1] = 1 :: List.replicate (x + 1) 1 by rw [List.replicate_succ']; rfl)
      have hx1 : (x : Int) < (n : Int) := by omega
      go_wp2_with (at_builtin; refine wpI_append rfl _ _ rfl w3.heap.size _ _ _ (1 :: List.replicate x (1 : Int)) (1) wr.heap.size rfl rfl HLx.out (HO.out.alloc (.cells #[.int .i64 (1)] 2)) (World.cell?_alloc_at _ _ _ _ rfl) (by omega) (by simp; omega) ?_; intro A5 c5 w5 ho5 hg5 ha5)
      have HB5 := Lib.hid (show Below w3.heap.size w3 w5 from (HB.out.alloc HB.out.size (.cells #[.int .i64 (1)] 2)).trans (below_blk (HO.out.alloc (.cells #[.int .i64 (1)] 2)) hg5 (Nat.le_refl _) (by simp; omega)))
      have HO5 := Lib.hid (show OwnI w5 w3.heap.size A5 c5 (1 :: List.replicate (x + 1) 1) from by rw [← HNx.out]; exact ho5)
      clear ho5 hg5 ha5
      go_wp2
      go_roundw
      case rel => exact ⟨x + 1, A5, c5, by omega, by go_num, rfl, HO5, HB5⟩
      case measure => simp [intOf] <;> omega
    · obtain rfl : x = n := by omega
      have HLx := Lib.hid (show (1 :: List.replicate x (1 : Int)).length = x + 1 by simp)
      have HM0 := Lib.hid (show OwnM (wr.alloc (.cells #[.slice A' (x + 1) c'] 37)) w3.heap.size (some ⟨wr.heap.size, 0, none⟩) 1 (fun _ => (A', c')) (pmX p k sq x 0) from lit1M HO.out HLx.out hszr)
      have HMb := Lib.hid (HB.out.alloc hszr (.cells #[.slice A' (x + 1) c'] 37))
      obtain ⟨wo, rfl⟩ : ∃ wo, wo = wr := ⟨_, rfl⟩
      go_wp2
      go_loopw [7, 8] (fun o v wr => ∃ (a : Nat) (A' : Option Addr) (c' : Nat) (R' : Spine), a ≤ x ∧ v = .int .i64 a ∧ o = .slice A' (a + 1) c' ∧ Hid (OwnM wr w3.heap.size A' c' R' (pmX p k sq x a)) ∧ Hid (Below w3.heap.size w3 wr)) (fun _ v _ => x - (intOf v).toNat)
      case atStart => exact ⟨0, _, _, _, Nat.zero_le _, rfl, rfl, HM0, HMb⟩
      case round =>
        obtain ⟨a, A4, c4, R4, ha, rfl, rfl, HO4, HB4⟩ := hrel
        have hsz4 := HB4.out.size
        by_cases hax : a < x
        · have hax1 : (a : Int) < (x : Int) := by omega
          have HR0 := Lib.hid (show OwnI (wr.alloc (.cells #[.int .i64 1] 2)) wr.heap.size (some ⟨wr.heap.size, 0, none⟩) 1 (pmR p k sq a 0) from lit1I wr 1 (Nat.le_refl wr.heap.size))
          have HRb := Lib.hid (below_boxed wr (.cells #[.int .i64 1] 2))
          obtain ⟨wq, rfl⟩ : ∃ wq, wq = wr := ⟨_, rfl⟩
          go_wp2
          go_loopw [9, 10] (fun o v wr => ∃ (b : Nat) (A' : Option Addr) (c' : Nat), b ≤ x ∧ v = .int .i64 b ∧ o = .slice A' (b + 1) c' ∧ Hid (OwnI wr wq.heap.size A' c' (pmR p k sq a b)) ∧ Hid (Below wq.heap.size wq wr)) (fun _ v _ => x - (intOf v).toNat)
          case atStart => exact ⟨0, _, _, Nat.zero_le _, rfl, rfl, HR0, HRb⟩
          case round =>
            obtain ⟨b, A5, c5, hbx, rfl, rfl, HO5, HB5⟩ := hrel
            have hsz5 := HB5.out.size
            by_cases hbl : b < x
            · have hbl1 : (b : Int) < (x : Int) := by omega
              have HBw := Lib.hid (HB4.out.trans (HB5.out.mono hsz4))
              have HXr := Lib.hid (HX3.out.below HBw.out)
              have hc0 := HXr.out.c0
              have HSc := Lib.hid (HSu.out wr w1.heap.size A1 c1 HXr.out b a (by omega) (by omega))
              have HHs := Lib.hid (fun V (hb : Below wr.heap.size wr V) => has_c V As ns cs sq ((cmbF p k (-1) b a : Nat) : Int) (HSr.out.below (HBw.out.trans (hb.mono HBw.out.size))) HSn.out)
              have HNx := Lib.hid (pmR_succ p k sq a b)
              have HVa := Lib.hid (show pmS p k sq b a = if hasB sq ((cmbF p k (-1) b a : Nat) : Int) = true then 1 else -1 from rfl)
              have HLr := Lib.hid (pmR_len p k sq a b)
              generalize pmS p k sq b a = g at *
              generalize hasB sq ((cmbF p k (-1) b a : Nat) : Int) = z at *
              generalize cmbF p k (-1) b a = u at *
              cases z
              · obtain rfl : g = -1 := HVa.out
                go_wp2_with fail
                refine (HSc.out).mono ?_
                rintro e w6 ⟨rfl, hb6⟩
                have HHw := Lib.hid (HHs.out w6 hb6)
                have HO6 := Lib.hid (HO5.out.below hb6)
                have HB6 := Lib.hid (HB5.out.trans (hb6.mono HB5.out.size))
                have hsz6 := HB6.out.size
                clear hb6 hc0
                go_wp2_with fail
                refine (HHw.out).mono ?_
                rintro e w' ⟨rfl, rfl⟩
                go_wp2_with (at_builtin; refine wpI_append rfl _ _ rfl wq.heap.size _ _ _ (pmR p k sq a b) (-1) w6.heap.size rfl rfl HLr.out (HO6.out.alloc (.cells #[.int .i64 (-1)] 2)) (World.cell?_alloc_at _ _ _ _ rfl) (by omega) (by simp; omega) ?_; intro A7 c7 w7 ho7 hg7 ha7)
                have HB7 := Lib.hid (show Below wq.heap.size wq w7 from (HB6.out.alloc HB6.out.size (.cells #[.int .i64 (-1)] 2)).trans (below_blk (HO6.out.alloc (.cells #[.int .i64 (-1)] 2)) hg7 (Nat.le_refl _) (by simp; omega)))
                have HO7 := Lib.hid (show OwnI w7 wq.heap.size A7 c7 (pmR p k sq a (b + 1)) from by rw [HNx.out]; exact ho7)
                clear ho7 hg7 ha7
                go_wp2
                go_roundw
                case rel => exact ⟨b + 1, A7, c7, by omega, by go_num, rfl, HO7, HB7⟩
                case measure => simp [intOf] <;> omega
              · obtain rfl : g = 1 := HVa.out
                go_wp2_with fail
                refine (HSc.out).mono ?_
                rintro e w6 ⟨rfl, hb6⟩
                have HHw := Lib.hid (HHs.out w6 hb6)
                have HO6 := Lib.hid (HO5.out.below hb6)
                have HB6 := Lib.hid (HB5.out.trans (hb6.mono HB5.out.size))
                have hsz6 := HB6.out.size
                clear hb6 hc0
                go_wp2_with fail
                refine (HHw.out).mono ?_
                rintro e w' ⟨rfl, rfl⟩
                go_wp2_with (at_builtin; refine wpI_append rfl _ _ rfl wq.heap.size _ _ _ (pmR p k sq a b) (1) w6.heap.size rfl rfl HLr.out (HO6.out.alloc (.cells #[.int .i64 (1)] 2)) (World.cell?_alloc_at _ _ _ _ rfl) (by omega) (by simp; omega) ?_; intro A7 c7 w7 ho7 hg7 ha7)
                have HB7 := Lib.hid (show Below wq.heap.size wq w7 from (HB6.out.alloc HB6.out.size (.cells #[.int .i64 (1)] 2)).trans (below_blk (HO6.out.alloc (.cells #[.int .i64 (1)] 2)) hg7 (Nat.le_refl _) (by simp; omega)))
                have HO7 := Lib.hid (show OwnI w7 wq.heap.size A7 c7 (pmR p k sq a (b + 1)) from by rw [HNx.out]; exact ho7)
                clear ho7 hg7 ha7
                go_wp2
                go_roundw
                case rel => exact ⟨b + 1, A7, c7, by omega, by go_num, rfl, HO7, HB7⟩
                case measure => simp [intOf] <;> omega
            · obtain rfl : b = x := by omega
              have HBx := Lib.hid (HB4.out.trans (HB5.out.mono hsz4))
              have HLc := Lib.hid (pmR_len p k sq a b)
              have HLt := Lib.hid (pmX_len p k sq b a)
              have HOx := Lib.hid ((HO4.out.below HB5.out).alloc (.cells #[.slice A5 (b + 1) c5] 37))
              have HIx := Lib.hid ((HO5.out.lower (lo' := w3.heap.size) hsz4).alloc (.cells #[.slice A5 (b + 1) c5] 37))
              have HAp := Lib.hid (later_apart HO4.out HO5.out)
              go_wp2_with (at_builtin; refine wpM_append rfl _ _ rfl w3.heap.size _ _ _ R4 (pmX p k sq b a) A5 (b + 1) c5 (pmR p k sq a b) wr.heap.size rfl rfl HLt.out HLc.out HOx.out HIx.out HAp.out (World.cell?_alloc_at _ _ _ _ rfl) (by omega) (by simp; omega) ?_; intro A9 c9 R9 w9 ho9 hg9 ha9)
              have HB9 := Lib.hid ((HBx.out.alloc HBx.out.size (.cells #[.slice A5 (b + 1) c5] 37)).trans (below_blkM HOx.out hg9 (Nat.le_refl _) (by simp; omega)))
              have HO9 := Lib.hid (show OwnM w9 w3.heap.size A9 c9 R9 (pmX p k sq b (a + 1)) from by rw [pmX_succ]; exact ho9)
              clear ho9 hg9 ha9
              go_wp2
              go_roundw
              case rel => exact ⟨a + 1, _, _, _, by omega, by go_num, rfl, HO9, HB9⟩
              case measure => simp [intOf] <;> omega
        · obtain rfl : a = x := by omega
          have HLt := Lib.hid (pmX_len p k sq a a)
          have HBf := Lib.hid (HB3.out.trans (HB4.out.mono HB3.out.size))
          have HOf := Lib.hid (HO4.out.lower (lo' := w.heap.size) HB3.out.size)
          go_wp2
          go_ret
          exact ⟨⟨_, _, _, _, rfl, HLt.out, HOf.out⟩, HBf.out⟩

set_option maxHeartbeats 4000000 in
theorem specPaleyMatrix_c (w : World) (q : Int) (hq : -9223372036854775808 ≤ q ∧ q ≤ 9223372036854775807) : Calls Try.prog 6 #[.int .i64 q] w (PostMC w (pmM q) (pmC q)) := by
  have hSp := l03Split_c w q
  rcases hb : fdB q with _ | _
  · have hno : pmOk q = false := decide_eq_false fun h => by rw [hb] at h; exact absurd h.1 (by simp)
    rw [show pmM q = [] from if_neg (by rw [hno]; simp), show pmC q = 2 from if_neg (by rw [hno]; simp)]
    rw [show fdV q = (0, 0) from if_neg (by rw [hb]; simp)] at hSp
    have HSp := Lib.hid hSp
    clear hb hno hSp
    go_enter Try.func6, Try.ntmps6
    go_wp2_with fail
    refine (HSp.out).mono ?_
    rintro e w' ⟨rfl, rfl⟩
    go_wp2
    go_ret2
    exact ⟨⟨none, 0, 0, fun _ => (none, 0), rfl, rfl, OwnM.nil_ _ _ _⟩, Below.refl _ _⟩
  have hfs := fd_spec hb
  have h2 : 2 ≤ q := hfs.2.2.2.2.2.1
  have h64 : q ≤ 64 := hfs.2.2.2.2.2.2
  have hp2 : 2 ≤ fdP q := hfs.1.1
  rw [show fdV q = ((fdP q : Int), (fdK q : Int)) from if_pos hb] at hSp
  obtain ⟨n, rfl⟩ : ∃ n : Nat, q = (n : Int) := ⟨q.toNat, by omega⟩
  have ht4 : (n : Int).tmod 4 = (n : Int) % 4 := Int.tmod_eq_emod_of_nonneg (by omega)
  have HPa := Lib.hid (fun (h : n ≤ 31) => l15Paley_c w n hb h)
  have HAll := Lib.hid (pmX_all (fdP (n : Int)) (fdK (n : Int)) (pmSq (n : Int)) n)
  have hpd : ((fdP (n : Int) : Int) == 0) = false := by simp; omega
  by_cases hok : (n : Int) % 4 = 3 ∧ (n : Int) + 1 ≤ 32
  rotate_left
  · have hno : pmOk (n : Int) = false := decide_eq_false fun h => hok h.2
    rw [show pmM (n : Int) = [] from if_neg (by rw [hno]; simp), show pmC (n : Int) = 2 from if_neg (by rw [hno]; simp)]
    generalize fdP (n : Int) = p at *
    generalize fdK (n : Int) = k at *
    have HSp := Lib.hid hSp
    have HOk := Lib.hid hok
    clear hb hno hfs hok hSp
    obtain ⟨r, hr⟩ : ∃ r, r = (n : Int) % 4 := ⟨_, rfl⟩
    rw [← hr] at ht4
    have HR := Lib.hid hr
    clear hr
    by_cases hr3 : r = 3
    · have hrd : (r != 3) = false := by simp; exact hr3
      have hq32 : (32 : Int) < (n : Int) + 1 := by have := HOk.out; have := HR.out; omega
      clear hr3
      go_enter Try.func6, Try.ntmps6
      go_wp2_with fail
      refine (HSp.out).mono ?_
      rintro e w' ⟨rfl, rfl⟩
      go_wp2
      go_ret2
      exact ⟨⟨none, 0, 0, fun _ => (none, 0), rfl, rfl, OwnM.nil_ _ _ _⟩, Below.refl _ _⟩
    · have hrd : (r != 3) = true := by simp; exact hr3
      clear hr3
      go_enter Try.func6, Try.ntmps6
      go_wp2_with fail
      refine (HSp.out).mono ?_
      rintro e w' ⟨rfl, rfl⟩
      go_wp2
      go_ret2
      exact ⟨⟨none, 0, 0, fun _ => (none, 0), rfl, rfl, OwnM.nil_ _ _ _⟩, Below.refl _ _⟩
  · have hyes : pmOk (n : Int) = true := decide_eq_true ⟨hb, hok⟩
    rw [show pmM (n : Int) = sqTo (pmF (fdP (n : Int)) (fdK (n : Int)) (pmSq (n : Int))) (n + 1) (n + 1) from if_pos hyes, show pmC (n : Int) = 0 from if_pos hyes]
    have hPa := HPa.out (by omega)
    rw [HAll.out] at hPa
    have HPb := Lib.hid hPa
    have hrd : ((n : Int) % 4 != 3) = false := by simp; exact hok.1
    have hrd2 : ((n : Int).tmod 4 != 3) = false := by rw [ht4]; exact hrd
    have hq32 : ¬ (32 : Int) < (n : Int) + 1 := by omega
    have hq33 : (n : Int) + 1 ≤ 32 := by omega
    clear HPa HAll
    generalize sqTo (pmF (fdP (n : Int)) (fdK (n : Int)) (pmSq (n : Int))) (n + 1) (n + 1) = xs at *
    generalize fdP (n : Int) = p at *
    generalize fdK (n : Int) = k at *
    have HSp := Lib.hid hSp
    clear hb hfs hSp hok hyes hPa ht4
    go_enter Try.func6, Try.ntmps6
    go_wp2_with fail
    refine (HSp.out).mono ?_
    rintro e w' ⟨rfl, rfl⟩
    go_wp2_with fail
    refine (HPb.out).mono ?_
    rintro e w5 ⟨⟨A5, n5, c5, R5, rfl, hn5, ho5⟩, hb5⟩
    have HN5 := Lib.hid hn5
    have HO5 := Lib.hid ho5
    have HB5 := Lib.hid hb5
    clear hn5 ho5 hb5
    go_wp2
    go_ret2
    exact ⟨⟨A5, n5, c5, R5, rfl, HN5.out, HO5.out⟩, HB5.out⟩
end Go.Proofs.Ytbbaeopobnpnmaa
