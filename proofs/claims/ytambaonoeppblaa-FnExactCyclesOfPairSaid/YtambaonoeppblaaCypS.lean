/-
  CyclesOfPair of the reference. Conditions: those of each theorem.
-/
import Derived.Test.YtambaonoeppblaaCypQ
namespace Go.Proofs.Ytambaonoeppblaa
open Go.RowKit
set_option linter.unusedVariables false
set_option linter.unusedSimpArgs false

set_option maxRecDepth 100000 in
set_option maxHeartbeats 8000000 in
theorem specCyclesOfPair_c (w : World) (p : Int) (hp : -9223372036854775808 ≤ p ∧ p ≤ 9223372036854775807) (A : Option Addr) (n c : Nat) (R : Spine) (xss : List (List Int)) (hr : RdM w A c R xss) (hn : xss.length = n) (hw : WfM xss) (hz : (n : Int) + (tot xss : Nat) ≤ 1048576)
    (a : Int) (ha : -9223372036854775808 ≤ a ∧ a ≤ 9223372036854775807) (b : Int) (hb : -9223372036854775808 ≤ b ∧ b ≤ 9223372036854775807) :
    Calls Try.prog 12 #[.agg #[.int .i64 p, .slice A n c], .int .i64 a, .int .i64 b] w (PostSC w (cpL p xss a b) (twoI p xss a b)) := by
  have hB0 := below_boxed w (.cells #[.int .i64 p, .slice A n c] 24)
  have hX := BoxD.made w p A n c 24
  have HO := Lib.hid (l11Two_c _ w.heap.size p A n c R xss hX (hr.below hB0) hn a b ha hb)
  have HB0 := Lib.hid hB0
  by_cases h0 : twoI p xss a b = 0
  rotate_left
  · rw [show cpL p xss a b = [] by unfold cpL; rw [if_neg h0]]
    have hd : (twoI p xss a b != 0) = true := by rw [bne_iff_ne]; exact h0
    generalize twoI p xss a b = z at *
    clear hB0 hX hr hn h0 ha hb hp hw hz
    go_enter Try.func12, Try.ntmps12
    go_wp2_with fail
    refine (HO.out).mono ?_
    rintro e w1 ⟨rfl, hb1⟩
    have hB := HB0.out.trans (hb1.mono HB0.out.size)
    go_wp2
    go_ret2
    exact ⟨⟨none, 0, 0, rfl, rfl, OwnI.nil_ _ _⟩, hB⟩
  obtain ⟨ht, h1, h2, h3⟩ := twoI_zero h0
  obtain ⟨P, rfl⟩ : ∃ P : Nat, p = (P : Int) := ⟨p.toNat, by omega⟩
  obtain ⟨x0, rfl⟩ : ∃ x : Nat, a = (x : Int) := ⟨a.toNat, by omega⟩
  obtain ⟨y0, rfl⟩ : ∃ y : Nat, b = (y : Int) := ⟨b.toNat, by omega⟩
  have hs := trip_sys ht
  have hP1 : 1 ≤ P := by have := hs.1.1.1; omega
  have hP2 : P ≤ 32 := by have := hs.1.1.2; omega
  have hne : x0 ≠ y0 := by omega
  have hx0 : x0 < P := by omega
  have hy0 : y0 < P := by omega
  have HC := Lib.hid (fun (W : World) (hb : Below w.heap.size w W) (hx : BoxD W w.heap.size (P : Int) A n c) (x y : Nat) (e : x ≠ y) (h1 : x < P) (h2 : y < P) => by
    have := l11Third_c W w.heap.size P A n c R xss hx (hr.below hb) hn hs.1 hs.2 x y e h1 h2
    rwa [(thN_eq hs.2 h1 h2).1] at this)
  have HX := Lib.hid hX
  rw [show cpL (P : Int) xss (x0 : Int) (y0 : Int) = sortL (lnTo (thN xss x0) (thN xss y0) P (D0 xss x0 y0) P) by unfold cpL; rw [if_pos h0]; rfl, h0]
  rw [h0] at HO
  have hdih := th_dih hs.2 hne hx0 hy0
  have hclo := th_clo (P := P) xss x0 y0
  have HE := Lib.hid (show ∀ z, ¬ ptE xss x0 y0 z → z ≠ x0 ∧ z ≠ y0 from fun z h => ⟨fun e => h (.inl e), fun e => h (.inr (.inl e))⟩)
  have HD0 := Lib.hid (show D0 xss x0 y0 = [(x0 : Int), (y0 : Int), ((thN xss x0 y0 : Nat) : Int)] from rfl)
  have HAl := Lib.hid (show ∀ y, thN xss x0 y = thN xss x0 y from fun _ => rfl)
  obtain ⟨al, hal⟩ : ∃ al, al = thN xss x0 := ⟨_, rfl⟩
  obtain ⟨be, hbe⟩ : ∃ be, be = thN xss y0 := ⟨_, rfl⟩
  have HCa := Lib.hid (fun (W : World) (hb : Below w.heap.size w W) (hx : BoxD W w.heap.size (P : Int) A n c) (y : Nat) (e : x0 ≠ y) (h2 : y < P) => by
    have := HC.out W hb hx x0 y e hx0 h2
    rwa [show thN xss x0 y = al y by rw [hal]] at this)
  have HCb := Lib.hid (fun (W : World) (hb : Below w.heap.size w W) (hx : BoxD W w.heap.size (P : Int) A n c) (y : Nat) (e : y0 ≠ y) (h2 : y < P) => by
    have := HC.out W hb hx y0 y e hy0 h2
    rwa [show thN xss y0 y = be y by rw [hbe]] at this)
  rw [← hal, ← hbe] at hdih hclo ⊢
  have HD1 := Lib.hid (show D0 xss x0 y0 = [(x0 : Int), (y0 : Int), ((al y0 : Nat) : Int)] by rw [hal]; rfl)
  generalize D0 xss x0 y0 = D at *
  have HDi := Lib.hid hdih
  have HCl := Lib.hid hclo
  have HDl := Lib.hid (show ∀ x, x ≤ P → (dnTo al be P D x).length ≤ 5000 from fun x hx => by
    have := dnTo_len hdih hclo hx
    have h3 : D.length = 3 := by rw [HD1.out]; rfl
    have : 2 * P * x ≤ 2 * 32 * 32 := Nat.mul_le_mul (Nat.mul_le_mul (Nat.le_refl _) hP2) (by omega)
    omega)
  generalize hEE : ptE xss x0 y0 = EE at *
  have hnexy : x0 ≠ y0 := hne
  clear hB0 hX hr hn h0 ht h1 h2 h3 hs ha hb hp hw hz HC hal hbe hdih hclo HD0 HAl hEE
  go_enter Try.func12, Try.ntmps12
  go_wp2_with fail
  refine (HO.out).mono ?_
  rintro e w1 ⟨rfl, hb1⟩
  have HB1 := Lib.hid (HB0.out.trans (hb1.mono HB0.out.size))
  have HX1 := Lib.hid (HX.out.below hb1)
  clear hb1
  go_wp2_with fail
  refine (HCa.out _ HB1.out HX1.out y0 hnexy hy0).mono ?_
  rintro e w2 ⟨rfl, m, rfl⟩
  have HB2 := Lib.hid (below_drewN HB1.out m)
  have HX2 := Lib.hid (HX1.out.drewN m)
  have hz2 : w.heap.size + 1 ≤ (w1.drewN m).heap.size := HX1.out.lt
  generalize w1.drewN m = w2 at *
  have HI0 := OwnI.tri w2 (x0 : Int) (y0 : Int) ((al y0 : Nat) : Int) (lo := w.heap.size + 1) hz2
  have HO0 := Lib.hid (show OwnI ((w2.alloc (.cells #[.int .i64 (x0 : Int), .int .i64 (y0 : Int), .int .i64 ((al y0 : Nat) : Int)] 2)).alloc (.cells #[] 2)) (w.heap.size + 1) (some ⟨w2.heap.size, 0, none⟩) 3 (dnTo al be P D 0) from by
    rw [show dnTo al be P D 0 = D from rfl, HD1.out]; exact HI0.alloc _)
  have HU0 := Lib.hid (show OwnI ((w2.alloc (.cells #[.int .i64 (x0 : Int), .int .i64 (y0 : Int), .int .i64 ((al y0 : Nat) : Int)] 2)).alloc (.cells #[] 2)) (w.heap.size + 1) (some ⟨w2.heap.size + 1, 0, none⟩) 0 (sortL (lnTo al be P D 0)) from by
    have := OwnI.lit0 (w2.alloc (.cells #[.int .i64 (x0 : Int), .int .i64 (y0 : Int), .int .i64 ((al y0 : Nat) : Int)] 2)) (lo := w.heap.size + 1) (by simp; omega)
    simpa [lnTo, sortL] using this)
  have HBz := Lib.hid (show Below (w.heap.size + 1) w2 ((w2.alloc (.cells #[.int .i64 (x0 : Int), .int .i64 (y0 : Int), .int .i64 ((al y0 : Nat) : Int)] 2)).alloc (.cells #[] 2)) from
    ((Below.refl (w.heap.size + 1) w2).alloc hz2 _).alloc (by simp; omega) _)
  have HD3 := Lib.hid (show (dnTo al be P D 0).length = 3 by rw [show dnTo al be P D 0 = D from rfl, HD1.out]; rfl)
  have HBx := Lib.hid (HX2.out.c0)
  clear HI0
  go_wp2
  go_loopw [9, 10, 11, 12, 13, 14, 15, 16] (fun o v i _ _ _ _ _ wr => ∃ (x dl ol gD gO cD cO : Nat), x ≤ P ∧ i = .int .i64 x ∧ o = .slice (some ⟨gD, 0, none⟩) dl cD ∧ v = .slice (some ⟨gO, 0, none⟩) ol cO ∧ gD ≠ gO ∧ Hid ((dnTo al be P D x).length = dl) ∧ Hid ((lnTo al be P D x).length = ol) ∧
    Hid (OwnI wr (w.heap.size + 1) (some ⟨gD, 0, none⟩) cD (dnTo al be P D x)) ∧ Hid (OwnI wr (w.heap.size + 1) (some ⟨gO, 0, none⟩) cO (sortL (lnTo al be P D x))) ∧ Hid (Below (w.heap.size + 1) w2 wr)) (fun _ _ i _ _ _ _ _ _ => P - (intOf i).toNat)
  case atStart => exact ⟨0, 3, 0, _, _, _, _, Nat.zero_le _, rfl, rfl, by first | rfl | simp, by simp, HD3, Lib.hid rfl, HO0, by first | exact HU0 | (simp; exact HU0), HBz⟩
  case round =>
    obtain ⟨x, dl, ol, gD, gO, cD, cO, hx, rfl, rfl, rfl, hgg, HDL, HOL, HOd, HOo, HB3⟩ := hrel
    have HB4 := Lib.hid (HB2.out.trans (HB3.out.mono (by omega)))
    have HX4 := Lib.hid (HX2.out.step (show w.heap.size < w.heap.size + 1 by omega) HB3.out)
    have hcp := HX4.out.c0
    have hdl : dl ≤ 5000 := by have := HDl.out x hx; rw [HDL.out] at this; exact this
    have hol : ol ≤ x := by have := lnTo_len al be P D x; rw [HOL.out] at this; exact this
    by_cases hxP : x < P
    rotate_left
    · obtain rfl : x = P := by omega
      have HF := Lib.hid (show (sortL (lnTo al be x D x)).length = ol by rw [sortL_len]; exact HOL.out)
      have hng : ¬ (x : Int) < (x : Int) := by omega
      go_wp2
      go_ret2
      exact ⟨⟨_, ol, cO, rfl, HF.out, HOo.out.lower (by omega)⟩, HB4.out⟩
    have hx0' : (0 : Int) ≤ (x : Int) := by omega
    have hx2' : (x : Int) < (P : Int) := by omega
    have HHas := Lib.hid (has_c wr (some ⟨gD, 0, none⟩) dl cD (dnTo al be P D x) (x : Int) HOd.out.rd HDL.out)
    rcases hm : hasB (dnTo al be P D x) (x : Int) with _ | _
    rotate_left
    · rw [hm] at HHas
      have HT1 := Lib.hid (show dnTo al be P D (x + 1) = dnTo al be P D x by rw [dnTo, if_pos hm])
      have HT2 := Lib.hid (show lnTo al be P D (x + 1) = lnTo al be P D x by rw [lnTo, if_pos hm])
      clear hm
      go_wp2_with fail
      refine (HHas.out).mono ?_
      rintro e w' ⟨rfl, rfl⟩
      go_wp2
      go_roundw
      case rel => exact ⟨x + 1, dl, ol, gD, gO, cD, cO, by omega, by go_num, rfl, rfl, hgg, by rw [HT1.out]; exact HDL, by rw [HT2.out]; exact HOL, by rw [HT1.out]; exact HOd, by rw [HT2.out]; exact HOo, HB3⟩
      case measure => simp [intOf]; omega
    rw [hm] at HHas
    have HM := Lib.hid (hasB_false.1 hm)
    have HT1 := Lib.hid (show dnTo al be P D (x + 1) = dnK al be P D x (per al be P x) by rw [dnTo, if_neg (by rw [hm]; simp)]; rfl)
    have HT2 := Lib.hid (show lnTo al be P D (x + 1) = lnTo al be P D x ++ [((2 * per al be P x : Nat) : Int)] by rw [lnTo, if_neg (by rw [hm]; simp)])
    have hce := Clo.all HDi.out HCl.out hx
    have hex : ¬ EE x := fun e => hasB_false.1 hm (hce.e x hxP e)
    have hper := HDi.out.per_all hxP hex
    obtain ⟨K, hK⟩ : ∃ K, K = per al be P x := ⟨_, rfl⟩
    rw [← hK] at HT1 HT2 hper
    have HPer := Lib.hid hper
    have HEx := Lib.hid hex
    have hK1 := hper.2.1
    have hK2 := hper.2.2.1
    have HO1 := Lib.hid (show OwnI wr (w.heap.size + 1) (some ⟨gD, 0, none⟩) cD (dnK al be P D x 0) by rw [dnK_zero]; exact HOd.out)
    have HL1 := Lib.hid (show (dnK al be P D x 0).length = dl by rw [dnK_zero]; exact HDL.out)
    clear hm hce hex hper hK
    obtain ⟨wo, rfl⟩ : ∃ wo, wo = wr := ⟨_, rfl⟩
    go_wp2_with fail
    refine (HHas.out).mono ?_
    rintro e w' ⟨rfl, rfl⟩
    clear hcp
    go_wp2
    go_loopw [9, 12, 13, 14] (fun o q y _ wr => ∃ (k gD cD : Nat), k ≤ K ∧ q = .int .i64 ((2 * k : Nat) : Int) ∧ y = .int .i64 ((sg al be x k : Nat) : Int) ∧ o = .slice (some ⟨gD, 0, none⟩) (dl + 2 * k) cD ∧ gD ≠ gO ∧ Hid ((dnK al be P D x k).length = dl + 2 * k) ∧
      Hid (OwnI wr (w.heap.size + 1) (some ⟨gD, 0, none⟩) cD (dnK al be P D x k)) ∧ Hid (OwnI wr (w.heap.size + 1) (some ⟨gO, 0, none⟩) cO (sortL (lnTo al be P D x))) ∧ Hid (Below (w.heap.size + 1) w2 wr)) (fun _ q _ _ _ => 2 * K - (intOf q).toNat)
    case atStart => exact ⟨0, gD, cD, Nat.zero_le _, rfl, rfl, rfl, hgg, HL1, HO1, HOo, HB3⟩
    case round =>
      obtain ⟨k, gE, cE, hk, rfl, rfl, rfl, hgE, HKL, HOk, HOo2, HB5⟩ := hrel
      have HB6 := Lib.hid (HB2.out.trans (HB5.out.mono (by omega)))
      have HX6 := Lib.hid (HX2.out.step (show w.heap.size < w.heap.size + 1 by omega) HB5.out)
      have hsg := HDi.out.sg_in hxP HEx.out k
      have hsn := HE.out _ hsg.2
      have hsa := HDi.out.a _ hsg.1 hsg.2
      have hsan := HE.out _ hsa.2.1
      by_cases hkK : k < K
      · obtain ⟨y, hy⟩ : ∃ y, y = sg al be x k := ⟨_, rfl⟩
        obtain ⟨z, hz⟩ : ∃ z, z = al y := ⟨_, rfl⟩
        have HS := Lib.hid (show sg al be x (k + 1) = be z by rw [hz, hy]; rfl)
        have HT := Lib.hid (show dnK al be P D x (k + 1) = dnK al be P D x k ++ [(y : Int), (z : Int)] by rw [dnK_succ, hz, hy])
        rw [← hy] at hsg hsn hsa hsan ⊢
        rw [← hz] at hsa hsan
        have HCa6 := Lib.hid (fun (W : World) (hb : Below w.heap.size w W) (hx : BoxD W w.heap.size (P : Int) A n c) => by have := HCa.out W hb hx y (fun e => hsn.1 e.symm) hsg.1; rwa [← hz] at this)
        have HCb6 := Lib.hid (fun (W : World) (hb : Below w.heap.size w W) (hx : BoxD W w.heap.size (P : Int) A n c) => HCb.out W hb hx z (fun e => hsan.2 e.symm) hsa.1)
        have hyP := hsg.1
        have hzP := hsa.1
        have hgo : (((2 * k : Nat) : Int) == 0) = true ∨ ((((2 * k : Nat) : Int) == 0) = false ∧ ((y : Int) != (x : Int)) = true) := by
          by_cases h0 : k = 0
          · left; subst h0; rfl
          · right
            refine ⟨by simp; omega, ?_⟩
            have := HPer.out.2.2.2 k (by omega) hkK
            rw [← hy] at this
            simp; omega
        clear hz hsg hsn hsa hsan hy
        obtain ⟨q, hq⟩ : ∃ q, q = 2 * k := ⟨_, rfl⟩
        rw [← hq] at hgo ⊢
        obtain ⟨t, ht⟩ : ∃ t, t = dl + q := ⟨_, rfl⟩
        have HKLt := Lib.hid (show (dnK al be P D x k).length = t by rw [HKL.out]; omega)
        rw [show dl + q = t from ht.symm]
        have hq2 : q ≤ 64 := by omega
        have hrest : ∀ (wz : World) (Q : Prop), True := fun _ _ => trivial
        rcases hgo with hg1 | ⟨hg1, hg2⟩
        · skip
          have ht2 : t ≤ 6000 := by omega
          have HQ := Lib.hid hq
          have HTt := Lib.hid ht
          clear hq ht
          go_wp2_with fail
          refine (HCa6.out _ HB6.out HX6.out).mono ?_
          rintro e w3 ⟨rfl, m, rfl⟩
          have HBk7 := Lib.hid (below_drewN HB5.out m)
          have HOk7 := Lib.hid (HOk.out.drewN m)
          have HOo7 := Lib.hid (HOo2.out.drewN m)
          have hz7 : w.heap.size + 1 ≤ (wr.drewN m).heap.size := by have := HBk7.out.size; omega
          generalize wr.drewN m = w4 at *
          have HIp := Lib.hid ((OwnI.pair w4 (y : Int) (z : Int) (Nat.le_refl w4.heap.size)).rd)
          have HOk8 := Lib.hid (HOk7.out.alloc (.cells #[.int .i64 (y : Int), .int .i64 (z : Int)] 2))
          have HOo8 := Lib.hid (HOo7.out.alloc (.cells #[.int .i64 (y : Int), .int .i64 (z : Int)] 2))
          have HBk8 := Lib.hid (HBk7.out.alloc hz7 (.cells #[.int .i64 (y : Int), .int .i64 (z : Int)] 2))
          have hgO7 := (HOo7.out.lt rfl).2
          go_wp2_with (at_builtin
                       refine wpI_appendL rfl _ _ rfl (w.heap.size + 1) (some ⟨gE, 0, none⟩) cE t (dnK al be P D x k) (some ⟨w4.heap.size, 0, none⟩) 2 2 [(y : Int), (z : Int)] rfl rfl HKLt.out rfl HOk8.out HIp.out (fun e => by cases e) (by omega) (by simp; omega) ?_
                       intro A8 c8 w8 ho8 hg8 ha8)
          have HB8 := Lib.hid (HBk8.out.trans (below_blk HOk8.out hg8 (Nat.le_refl _) (by simp; omega)))
          have HOo9 := Lib.hid (HOo8.out.grown hg8 (fun g e h => by rw [blk_some] at h; injection e with e; injection e with e; injection h with h; omega))
          have HOk9 := Lib.hid (show OwnI w8 (w.heap.size + 1) A8 c8 (dnK al be P D x (k + 1)) from by rw [HT.out]; exact ho8)
          obtain ⟨g8, eg8, hg80, hg81, _, _⟩ := HOk9.out.some_of (by rw [HT.out, List.length_append]; simp)
          subst eg8
          have hgg8 : g8 ≠ gO := by
            rcases ha8 with e | e <;> rw [blk_some] at e <;> (try rw [blk_some] at e) <;> injection e with e
            · omega
            · simp at e; omega
          have HLn9 := Lib.hid (show (dnK al be P D x (k + 1)).length = t + 2 from by rw [HT.out, List.length_append, HKLt.out]; rfl)
          have HBw8 := Lib.hid (HB2.out.trans (HB8.out.mono (by omega)))
          have HX8 := Lib.hid (HX2.out.step (show w.heap.size < w.heap.size + 1 by omega) HB8.out)
          clear ho8 hg8 ha8
          go_wp2_with fail
          refine (HCb6.out _ HBw8.out HX8.out).mono ?_
          rintro e w9 ⟨rfl, m9, rfl⟩
          have HBk9 := Lib.hid (below_drewN HB8.out m9)
          have HOkA := Lib.hid (HOk9.out.drewN m9)
          have HOoA := Lib.hid (HOo9.out.drewN m9)
          go_wp2
          go_roundw
          case rel => exact ⟨k + 1, g8, c8, by omega, by have := HQ.out; go_num, by rw [HS.out], by have h1 := HTt.out; have h2 := HQ.out; show Value.slice _ _ _ = Value.slice _ _ _; rw [show t + 2 = dl + 2 * (k + 1) by omega], hgg8, Lib.hid (by have h1 := HTt.out; have h2 := HQ.out; rw [HLn9.out]; omega), HOkA, HOoA, HBk9⟩
          case measure => have := HQ.out; simp [intOf]; omega
        · skip
          have ht2 : t ≤ 6000 := by omega
          have HQ := Lib.hid hq
          have HTt := Lib.hid ht
          clear hq ht
          go_wp2_with fail
          refine (HCa6.out _ HB6.out HX6.out).mono ?_
          rintro e w3 ⟨rfl, m, rfl⟩
          have HBk7 := Lib.hid (below_drewN HB5.out m)
          have HOk7 := Lib.hid (HOk.out.drewN m)
          have HOo7 := Lib.hid (HOo2.out.drewN m)
          have hz7 : w.heap.size + 1 ≤ (wr.drewN m).heap.size := by have := HBk7.out.size; omega
          generalize wr.drewN m = w4 at *
          have HIp := Lib.hid ((OwnI.pair w4 (y : Int) (z : Int) (Nat.le_refl w4.heap.size)).rd)
          have HOk8 := Lib.hid (HOk7.out.alloc (.cells #[.int .i64 (y : Int), .int .i64 (z : Int)] 2))
          have HOo8 := Lib.hid (HOo7.out.alloc (.cells #[.int .i64 (y : Int), .int .i64 (z : Int)] 2))
          have HBk8 := Lib.hid (HBk7.out.alloc hz7 (.cells #[.int .i64 (y : Int), .int .i64 (z : Int)] 2))
          have hgO7 := (HOo7.out.lt rfl).2
          go_wp2_with (at_builtin
                       refine wpI_appendL rfl _ _ rfl (w.heap.size + 1) (some ⟨gE, 0, none⟩) cE t (dnK al be P D x k) (some ⟨w4.heap.size, 0, none⟩) 2 2 [(y : Int), (z : Int)] rfl rfl HKLt.out rfl HOk8.out HIp.out (fun e => by cases e) (by omega) (by simp; omega) ?_
                       intro A8 c8 w8 ho8 hg8 ha8)
          have HB8 := Lib.hid (HBk8.out.trans (below_blk HOk8.out hg8 (Nat.le_refl _) (by simp; omega)))
          have HOo9 := Lib.hid (HOo8.out.grown hg8 (fun g e h => by rw [blk_some] at h; injection e with e; injection e with e; injection h with h; omega))
          have HOk9 := Lib.hid (show OwnI w8 (w.heap.size + 1) A8 c8 (dnK al be P D x (k + 1)) from by rw [HT.out]; exact ho8)
          obtain ⟨g8, eg8, hg80, hg81, _, _⟩ := HOk9.out.some_of (by rw [HT.out, List.length_append]; simp)
          subst eg8
          have hgg8 : g8 ≠ gO := by
            rcases ha8 with e | e <;> rw [blk_some] at e <;> (try rw [blk_some] at e) <;> injection e with e
            · omega
            · simp at e; omega
          have HLn9 := Lib.hid (show (dnK al be P D x (k + 1)).length = t + 2 from by rw [HT.out, List.length_append, HKLt.out]; rfl)
          have HBw8 := Lib.hid (HB2.out.trans (HB8.out.mono (by omega)))
          have HX8 := Lib.hid (HX2.out.step (show w.heap.size < w.heap.size + 1 by omega) HB8.out)
          clear ho8 hg8 ha8
          go_wp2_with fail
          refine (HCb6.out _ HBw8.out HX8.out).mono ?_
          rintro e w9 ⟨rfl, m9, rfl⟩
          have HBk9 := Lib.hid (below_drewN HB8.out m9)
          have HOkA := Lib.hid (HOk9.out.drewN m9)
          have HOoA := Lib.hid (HOo9.out.drewN m9)
          go_wp2
          go_roundw
          case rel => exact ⟨k + 1, g8, c8, by omega, by have := HQ.out; go_num, by rw [HS.out], by have h1 := HTt.out; have h2 := HQ.out; show Value.slice _ _ _ = Value.slice _ _ _; rw [show t + 2 = dl + 2 * (k + 1) by omega], hgg8, Lib.hid (by have h1 := HTt.out; have h2 := HQ.out; rw [HLn9.out]; omega), HOkA, HOoA, HBk9⟩
          case measure => have := HQ.out; simp [intOf]; omega
      · obtain rfl : k = K := by omega
        have hgx : sg al be x k = x := HPer.out.1
        rw [hgx]
        have hg1 : (((2 * k : Nat) : Int) == 0) = false := by simp; omega
        have hg2 : ((x : Int) != (x : Int)) = false := by simp
        obtain ⟨m, hm⟩ : ∃ m, m = 2 * k := ⟨_, rfl⟩
        obtain ⟨L, hL⟩ : ∃ L, L = lnTo al be P D x := ⟨_, rfl⟩
        have HT3 := Lib.hid (show sortL (lnTo al be P D (x + 1)) = sortL (L ++ [(m : Int)]) from by rw [HT2.out, hL, hm])
        have HT4 := Lib.hid (show (lnTo al be P D (x + 1)).length = ol + 1 from by rw [HT2.out, List.length_append, HOL.out]; rfl)
        rw [← hm] at hg1 ⊢
        rw [← hL] at HOo2
        have HLl := Lib.hid (show L.length = ol by rw [hL]; exact HOL.out)
        have hm64 : m ≤ 64 := by omega
        have HMm := Lib.hid hm
        have hgOc := HOo2.out.lt rfl
        obtain ⟨_, eO, _, _, hLc, hcm⟩ := (show ∃ g, (some ⟨gO, 0, none⟩ : Option Addr) = some ⟨g, 0, none⟩ ∧ w.heap.size + 1 ≤ g ∧ g < wr.heap.size ∧ (sortL L).length ≤ cO ∧ cO ≤ maxLen from by
          rcases HOo2.out.form with ⟨e, _⟩ | h
          · cases e
          · exact h)
        unfold maxLen at hcm
        rw [sortL_len, HLl.out] at hLc
        have hwz := HB5.out.size
        clear hm hL eO HOL HOo HOd
        obtain ⟨wp, rfl⟩ : ∃ wp, wp = wr := ⟨_, rfl⟩
        go_wp2
        go_loopw [15] (fun v wr => ∃ j : Nat, j ≤ ol ∧ v = .int .i64 j ∧ Hid (∀ i, j ≤ i → i < L.length → (m : Int) < nth (sortL L) i) ∧ Qt wp wr) (fun v _ => (intOf v).toNat)
        case atStart => exact ⟨ol, Nat.le_refl _, rfl, Lib.hid (fun i h1 h2 => by have := HLl.out; omega), Qt.refl _⟩
        case round =>
          obtain ⟨j, hj, rfl, HGt, ⟨q9, rfl⟩⟩ := hrel
          have HOo3 := Lib.hid (HOo2.out.drewN q9)
          have HOk3 := Lib.hid (HOk.out.drewN q9)
          have HB9 := Lib.hid (below_drewN HB5.out q9)
          have hzq : (wp.drewN q9).heap.size = wp.heap.size := rfl
          by_cases hj0 : j = 0
          · subst hj0
            have HLe := Lib.hid (show ∀ i, i < 0 → nth (sortL L) i ≤ (m : Int) from fun i h => absurd h (by omega))
            have HSt := Lib.hid (sortL_put (xs := L) (n := (m : Int)) (k := 0) (by rw [HLl.out]; exact hj) HLe.out (fun i h1 h2 => HGt.out i h1 h2))
            have HTl := Lib.hid (show ((sortL L).take 0).length = 0 by rw [List.length_take, sortL_len, HLl.out]; omega)
            have HOw := Lib.hid (l00Own_c (wp.drewN q9) (some ⟨gO, 0, none⟩) 0 cO ((sortL L).take 0) (HOo3.out.rd.takeC_ 0) HTl.out (fun e => by cases e) (by omega))
            have hjc : 0 ≤ cO := by omega
            go_wp2_with fail
            refine (HOw.out).mono ?_
            rintro e w5 ⟨⟨A5, n5, c5, rfl, hn5, ho5⟩, hb5⟩
            obtain rfl : 0 = n5 := HTl.out.symm.trans hn5
            have hz5 := hb5.size
            have HI5 := Lib.hid (ho5.alloc (.cells #[.int .i64 (m : Int)] 2))
            have HBa := Lib.hid (hb5.alloc hz5 (.cells #[.int .i64 (m : Int)] 2))
            clear hn5 ho5
            go_wp2_with (at_builtin
                         refine wpI_append rfl _ _ rfl (wp.drewN q9).heap.size _ _ _ ((sortL L).take 0) (m : Int) w5.heap.size rfl rfl HTl.out HI5.out (World.cell?_alloc_at _ _ _ _ rfl) (by omega) (by simp; omega) ?_
                         intro A6 c6 w6 ho6 hg6 ha6
                         refine stop_ ?_)
            have HBb := Lib.hid (HBa.out.trans (below_blk HI5.out hg6 (Nat.le_refl _) (by simp; omega)))
            have hz6 := HBb.out.size
            have HO6 := Lib.hid ho6
            have HR6 := Lib.hid (HOo3.out.rd.below HBb.out)
            have HN6 := Lib.hid (show ((sortL L).take 0 ++ [(m : Int)]).length = 0 + 1 from by rw [List.length_append, HTl.out]; rfl)
            clear ho6 hg6 ha6 hb5
            refine Lib.hid ?_
            by_cases hck : cO = 0
            · have hD0 : (sortL L).drop 0 = [] := List.drop_eq_nil_of_le (by rw [sortL_len, HLl.out]; omega)
              have hlk0 : ol - 0 = 0 := by omega
              have hck0 : cO - 0 = 0 := by omega
              have HD9 := Lib.hid hD0
              have hol9 : ol = 0 := by omega
              clear hD0
              go_wp2_with (at_builtin
                           refine wpI_appendL rfl _ _ rfl (wp.drewN q9).heap.size A6 c6 (0 + 1) ((sortL L).take 0 ++ [(m : Int)]) (some ⟨gO, 0, none⟩) 0 0 [] rfl rfl HN6.out rfl HO6.out ⟨Nat.le_refl _, by unfold maxLen; omega, fun _ h => absurd h (by simp)⟩ (fun e => by cases e) (by omega) (by omega) ?_
                           intro A7 c7 w7 ho7 hg7 ha7)
              have HO7 := Lib.hid (show OwnI w7 (wp.drewN q9).heap.size A7 c7 (sortL (L ++ [(m : Int)])) from by rw [← HSt.out, HD9.out]; exact ho7)
              have HBc := Lib.hid (HBb.out.trans (below_blk HO6.out hg7 (Nat.le_refl _) hz6))
              obtain ⟨g7, eg7, hg70, hg71, _, _⟩ := HO7.out.some_of (by rw [sortL_len, List.length_append]; simp)
              subst eg7
              have HOk7 := Lib.hid (HOk3.out.below HBc.out)
              have HBk7 := Lib.hid (HB9.out.trans (HBc.out.mono (by omega)))
              have hgE := (HOk3.out.lt rfl).2
              have hne9 : gE ≠ g7 := by omega
              clear ho7 hg7 ha7
              go_wp2
              go_roundw
              case rel => exact ⟨x + 1, dl + 2 * k, ol + 1, gE, g7, cE, c7, by omega, by go_num, by rw [HMm.out], by first | rfl | (show Value.slice _ _ _ = Value.slice _ _ _; congr 1; omega), hne9, by rw [HT1.out]; exact HKL, HT4, by rw [HT1.out]; exact HOk7, by rw [HT3.out]; exact HO7.out.lower (by omega), HBk7⟩
              case measure => simp [intOf]; omega
            · have hck2 : 0 < cO := by omega
              have HRd := Lib.hid (by have := HR6.out.drop 0; rwa [Nat.zero_add] at this)
              have hdl9 : ((sortL L).drop 0).length = ol - 0 := by rw [List.length_drop, sortL_len, HLl.out]
              have HDl9 := Lib.hid hdl9
              clear hck hdl9
              go_wp2_with (at_builtin
                           refine wpI_appendL rfl _ _ rfl (wp.drewN q9).heap.size A6 c6 (0 + 1) ((sortL L).take 0 ++ [(m : Int)]) (some ⟨gO, 0, none⟩) (ol - 0) (cO - 0) ((sortL L).drop 0) rfl (by first | rfl | simp) HN6.out HDl9.out HO6.out HRd.out (fun e => by cases e) (by omega) (by omega) ?_
                           intro A7 c7 w7 ho7 hg7 ha7)
              have HO7 := Lib.hid (show OwnI w7 (wp.drewN q9).heap.size A7 c7 (sortL (L ++ [(m : Int)])) from by rw [← HSt.out]; exact ho7)
              have HBc := Lib.hid (HBb.out.trans (below_blk HO6.out hg7 (Nat.le_refl _) hz6))
              obtain ⟨g7, eg7, hg70, hg71, _, _⟩ := HO7.out.some_of (by rw [sortL_len, List.length_append]; simp)
              subst eg7
              have HOk7 := Lib.hid (HOk3.out.below HBc.out)
              have HBk7 := Lib.hid (HB9.out.trans (HBc.out.mono (by omega)))
              have hgE := (HOk3.out.lt rfl).2
              have hne9 : gE ≠ g7 := by omega
              clear ho7 hg7 ha7
              go_wp2
              go_roundw
              case rel => exact ⟨x + 1, dl + 2 * k, ol + 1, gE, g7, cE, c7, by omega, by go_num, by rw [HMm.out], by first | rfl | (show Value.slice _ _ _ = Value.slice _ _ _; congr 1; omega), hne9, by rw [HT1.out]; exact HKL, HT4, by rw [HT1.out]; exact HOk7, by rw [HT3.out]; exact HO7.out.lower (by omega), HBk7⟩
              case measure => simp [intOf]; omega
          · have hkd : decide (0 < (j : Int)) = true := by simp; omega
            have hkd3 : (0 : Int) < (j : Int) := by omega
            obtain ⟨i, hi⟩ : ∃ i, i = j - 1 := ⟨_, rfl⟩
            have hsub : IntKind.i64.wrap ((j : Int) - 1) = (i : Int) := by rw [show (j : Int) - 1 = (i : Int) by omega]; exact IntWalk.i64_in _ (by omega)
            have hs0 : (0 : Int) ≤ (i : Int) := by omega
            have hs1 : (i : Int) < (ol : Int) := by omega
            have hil : i < (sortL L).length := by rw [sortL_len, HLl.out]; omega
            obtain ⟨_, e9, _, _, hc9, _⟩ := HOo3.out.at_ hil
            injection e9 with e9
            injection e9 with e9
            subst e9
            obtain ⟨v, hv⟩ : ∃ v, v = nth (sortL L) i := ⟨_, rfl⟩
            rw [← hv] at hc9
            have HVv := Lib.hid hv
            have HIi := Lib.hid hi
            by_cases hlt : (m : Int) < v
            · have hd9 : decide ((m : Int) < v) = true := by simp; exact hlt
              have HGt2 := Lib.hid (show ∀ t, i ≤ t → t < L.length → (m : Int) < nth (sortL L) t from fun t h1 h2 => by
                by_cases e : t = i
                · subst e; rw [← hv]; exact hlt
                · exact HGt.out t (by omega) h2)
              clear hv hi hj0
              go_wp2
              clear hsub
              go_roundw
              case rel => exact ⟨i, by have := HIi.out; omega, by have := HIi.out; go_num, HGt2, by first | exact ⟨_, rfl⟩ | exact qt2 _ _ _⟩
              case measure => have := HIi.out; simp [intOf]; omega
            · have hd9 : decide ((m : Int) < v) = false := by simp; omega
              have HLe := Lib.hid (show ∀ t, t < j → nth (sortL L) t ≤ (m : Int) from fun t h => by
                have h1 : nth (sortL L) t ≤ v := by
                  rw [hv]
                  by_cases e : t = i
                  · subst e; exact Int.le_refl _
                  · rw [nth_eq (by omega), nth_eq hil]
                    exact (List.pairwise_iff_getElem.1 (sortL_le L)) t i (by omega) hil (by omega)
                omega)
              clear hv hi
              have HSt := Lib.hid (sortL_put (xs := L) (n := (m : Int)) (k := j) (by rw [HLl.out]; exact hj) HLe.out (fun i h1 h2 => HGt.out i h1 h2))
              have HTl := Lib.hid (show ((sortL L).take j).length = j by rw [List.length_take, sortL_len, HLl.out]; omega)
              have HOw := Lib.hid (l00Own_c (wp.drewN q9) (some ⟨gO, 0, none⟩) j cO ((sortL L).take j) (HOo3.out.rd.takeC_ j) HTl.out (fun e => by cases e) (by omega))
              have hjc : j ≤ cO := by omega
              go_wp2_with fail
              refine (HOw.out).mono ?_
              rintro e w5 ⟨⟨A5, n5, c5, rfl, hn5, ho5⟩, hb5⟩
              obtain rfl : j = n5 := HTl.out.symm.trans hn5
              have hz5 := hb5.size
              have HI5 := Lib.hid (ho5.alloc (.cells #[.int .i64 (m : Int)] 2))
              have HBa := Lib.hid (hb5.alloc hz5 (.cells #[.int .i64 (m : Int)] 2))
              clear hn5 ho5
              go_wp2_with (at_builtin
                           refine wpI_append rfl _ _ rfl (wp.drewN q9).heap.size _ _ _ ((sortL L).take j) (m : Int) w5.heap.size rfl rfl HTl.out HI5.out (World.cell?_alloc_at _ _ _ _ rfl) (by omega) (by simp; omega) ?_
                           intro A6 c6 w6 ho6 hg6 ha6
                           refine stop_ ?_)
              have HBb := Lib.hid (HBa.out.trans (below_blk HI5.out hg6 (Nat.le_refl _) (by simp; omega)))
              have hz6 := HBb.out.size
              have HO6 := Lib.hid ho6
              have HR6 := Lib.hid (HOo3.out.rd.below HBb.out)
              have HN6 := Lib.hid (show ((sortL L).take j ++ [(m : Int)]).length = j + 1 from by rw [List.length_append, HTl.out]; rfl)
              clear ho6 hg6 ha6 hb5
              refine Lib.hid ?_
              by_cases hck : cO = j
              · have hD0 : (sortL L).drop j = [] := List.drop_eq_nil_of_le (by rw [sortL_len, HLl.out]; omega)
                have hlk0 : ol - j = 0 := by omega
                have hck0 : cO - j = 0 := by omega
                have HD9 := Lib.hid hD0
                have hol9 : ol = j := by omega
                clear hD0
                go_wp2_with (at_builtin
                             refine wpI_appendL rfl _ _ rfl (wp.drewN q9).heap.size A6 c6 (j + 1) ((sortL L).take j ++ [(m : Int)]) (some ⟨gO, 0, none⟩) 0 0 [] rfl rfl HN6.out rfl HO6.out ⟨Nat.le_refl _, by unfold maxLen; omega, fun _ h => absurd h (by simp)⟩ (fun e => by cases e) (by omega) (by omega) ?_
                             intro A7 c7 w7 ho7 hg7 ha7)
                have HO7 := Lib.hid (show OwnI w7 (wp.drewN q9).heap.size A7 c7 (sortL (L ++ [(m : Int)])) from by rw [← HSt.out, HD9.out]; exact ho7)
                have HBc := Lib.hid (HBb.out.trans (below_blk HO6.out hg7 (Nat.le_refl _) hz6))
                obtain ⟨g7, eg7, hg70, hg71, _, _⟩ := HO7.out.some_of (by rw [sortL_len, List.length_append]; simp)
                subst eg7
                have HOk7 := Lib.hid (HOk3.out.below HBc.out)
                have HBk7 := Lib.hid (HB9.out.trans (HBc.out.mono (by omega)))
                have hgE := (HOk3.out.lt rfl).2
                have hne9 : gE ≠ g7 := by omega
                clear ho7 hg7 ha7
                go_wp2
                go_roundw
                case rel => exact ⟨x + 1, dl + 2 * k, ol + 1, gE, g7, cE, c7, by omega, by go_num, by rw [HMm.out], by first | rfl | (show Value.slice _ _ _ = Value.slice _ _ _; congr 1; omega), hne9, by rw [HT1.out]; exact HKL, HT4, by rw [HT1.out]; exact HOk7, by rw [HT3.out]; exact HO7.out.lower (by omega), HBk7⟩
                case measure => simp [intOf]; omega
              · have hck2 : j < cO := by omega
                have HRd := Lib.hid (by have := HR6.out.drop j; rwa [Nat.zero_add] at this)
                have hdl9 : ((sortL L).drop j).length = ol - j := by rw [List.length_drop, sortL_len, HLl.out]
                have HDl9 := Lib.hid hdl9
                clear hck hdl9
                go_wp2_with (at_builtin
                             refine wpI_appendL rfl _ _ rfl (wp.drewN q9).heap.size A6 c6 (j + 1) ((sortL L).take j ++ [(m : Int)]) (some ⟨gO, j, none⟩) (ol - j) (cO - j) ((sortL L).drop j) rfl (by first | rfl | simp) HN6.out HDl9.out HO6.out HRd.out (fun e => by cases e) (by omega) (by omega) ?_
                             intro A7 c7 w7 ho7 hg7 ha7)
                have HO7 := Lib.hid (show OwnI w7 (wp.drewN q9).heap.size A7 c7 (sortL (L ++ [(m : Int)])) from by rw [← HSt.out]; exact ho7)
                have HBc := Lib.hid (HBb.out.trans (below_blk HO6.out hg7 (Nat.le_refl _) hz6))
                obtain ⟨g7, eg7, hg70, hg71, _, _⟩ := HO7.out.some_of (by rw [sortL_len, List.length_append]; simp)
                subst eg7
                have HOk7 := Lib.hid (HOk3.out.below HBc.out)
                have HBk7 := Lib.hid (HB9.out.trans (HBc.out.mono (by omega)))
                have hgE := (HOk3.out.lt rfl).2
                have hne9 : gE ≠ g7 := by omega
                clear ho7 hg7 ha7
                go_wp2
                go_roundw
                case rel => exact ⟨x + 1, dl + 2 * k, ol + 1, gE, g7, cE, c7, by omega, by go_num, by rw [HMm.out], by first | rfl | (show Value.slice _ _ _ = Value.slice _ _ _; congr 1; omega), hne9, by rw [HT1.out]; exact HKL, HT4, by rw [HT1.out]; exact HOk7, by rw [HT3.out]; exact HO7.out.lower (by omega), HBk7⟩
                case measure => simp [intOf]; omega
end Go.Proofs.Ytambaonoeppblaa
