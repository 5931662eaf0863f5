/-
  CountBreaks of the reference. Conditions: those of each theorem.
-/
import Derived.Test.YtdcegepkgcflpaaBrk2
namespace Go.Proofs.Ytdcegepkgcflpaa
open Go.RowKit
set_option linter.unusedVariables false
set_option linter.unusedSimpArgs false

theorem brC_one {n : Int} {x : List (List (List Int))} {ys : List (List Int)} (h : schB n x = false) : brC n x ys = 1 ∧ brV n x ys = 0 := by
  have h1 : brC n x ys = 1 := if_neg (by rw [h]; simp)
  exact ⟨h1, if_neg (by omega)⟩
theorem brC_two {n : Int} {x : List (List (List Int))} {ys : List (List Int)} (h : schB n x = true) (h2 : hmB x ys = false) : brC n x ys = 2 ∧ brV n x ys = 0 := by
  have h1 : brC n x ys = 2 := (if_pos h).trans (if_neg (by rw [h2]; simp))
  exact ⟨h1, if_neg (by omega)⟩
theorem brC_zero {N : Nat} {x : List (List (List Int))} {ys : List (List Int)} (h : schB (N : Int) x = true) (h2 : hmB x ys = true) : brC (N : Int) x ys = 0 ∧ brV (N : Int) x ys = (brN x ys N : Int) := by
  have h1 : brC (N : Int) x ys = 0 := (if_pos h).trans (if_pos h2)
  exact ⟨h1, if_pos h1⟩
theorem bk_row_le (x : List (List (List Int))) (ys : List (List Int)) (t k : Nat) : smN (fun r => bkB x ys r t) k ≤ k := by
  have := smN_le (g := fun r => bkB x ys r t) (k := k) (c := 1) fun i => bkB_le x ys i t
  omega
theorem bk_all_le (x : List (List (List Int))) (ys : List (List Int)) (t c : Nat) (h : c ≤ 1048576) : smN (fun t => smN (fun r => bkB x ys r t) c) t ≤ t * 1048576 :=
  smN_le fun i => Nat.le_trans (bk_row_le x ys i c) h

set_option maxRecDepth 100000 in
set_option maxHeartbeats 8000000 in
theorem specCountBreaks_c (w : World) (n : Int) (hn64 : -9223372036854775808 ≤ n ∧ n ≤ 9223372036854775807) (A : Option Addr) (q c : Nat) (S : Spine3) (x : List (List (List Int))) (hr : RdL w A c S x) (hq : x.length = q) (hw : WfT x) (hz : (q : Int) + (wgt x : Nat) ≤ 1048576)
    (B : Option Addr) (m d : Nat) (R : Spine) (ys : List (List Int)) (hy : RdM w B d R ys) (hm : ys.length = m) (hwy : WfM ys) (hzy : (m : Int) + (tot ys : Nat) ≤ 1048576) :
    Calls Try.prog 24 #[.int .i64 n, .slice A q c, .slice B m d] w (PostV w (.tuple #[.int .i64 (brV n x ys), .int .i64 (brC n x ys)])) := by
  have hO := l14Ok_c w n hn64 A q c S x hr hq hz
  have hH := fun (W : World) (hb : Below w.heap.size w W) => l14Homes_c W A B q m c d S R x ys (hr.below hb) hq (hy.below hb) hm
  have hq20 : q ≤ 1048576 := by omega
  rcases hs : schB n x with _ | _
  · rw [(brC_one (ys := ys) hs).1, (brC_one (ys := ys) hs).2]
    rw [hs] at hO
    have HO := Lib.hid hO
    clear hO hH hs hr hq hw hz hy hm hwy hzy
    go_enter Try.func24, Try.ntmps24
    go_wp2_with fail
    refine (HO.out).mono ?_
    rintro e w2 ⟨rfl, hb2⟩
    go_wp2
    go_ret2
    exact ⟨rfl, hb2⟩
  rw [hs] at hO
  have HO := Lib.hid hO
  rcases hh : hmB x ys with _ | _
  · rw [(brC_two hs hh).1, (brC_two hs hh).2]
    simp only [hh] at hH
    have HH := Lib.hid hH
    clear hO hH hs hr hq hw hz hy hm hwy hzy hh
    go_enter Try.func24, Try.ntmps24
    go_wp2_with fail
    refine (HO.out).mono ?_
    rintro e w2 ⟨rfl, hb2⟩
    have HB2 := Lib.hid hb2
    have HHw := Lib.hid (HH.out w2 hb2)
    clear hb2
    go_wp2_with fail
    refine (HHw.out).mono ?_
    rintro e w' ⟨rfl, z, rfl⟩
    have HB3 := Lib.hid (below_drewN HB2.out z)
    go_wp2
    go_ret2
    exact ⟨rfl, HB3.out⟩
  have hsO : schOk n x := of_decide_eq_true hs
  obtain ⟨N, rfl⟩ : ∃ N : Nat, n = (N : Int) := ⟨n.toNat, by have := hsO.1.1; omega⟩
  have hN : N ≤ 32 := by have := hsO.1.2; omega
  rw [(brC_zero hs hh).1, (brC_zero hs hh).2]
  simp only [hh] at hH
  have HH := Lib.hid hH
  have hho := of_decide_eq_true hh
  have HLr := Lib.hid (fun r (hr : r < x.length) => (show (row ys r).length = (pln x r).length from (hho.2 r hr).1))
  have HX := Lib.hid hr
  have HY := Lib.hid hy
  have HN := Lib.hid hq
  have HM := Lib.hid (show ys.length = x.length from hho.1)
  obtain rfl : q = m := by omega
  clear hO hH hs hr hq hw hz hy hm hwy hzy hh hsO hho hn64
  go_enter Try.func24, Try.ntmps24
  go_wp2_with fail
  refine (HO.out).mono ?_
  rintro e w2 ⟨rfl, hb2⟩
  have HB2 := Lib.hid hb2
  have HHw := Lib.hid (HH.out w2 hb2)
  clear hb2
  go_wp2_with fail
  refine (HHw.out).mono ?_
  rintro e w' ⟨rfl, z, rfl⟩
  have HB3 := Lib.hid (below_drewN HB2.out z)
  generalize w2.drewN z = w3 at *
  go_wp2
  go_loopw [8, 9, 10, 11] (fun s v _ _ wr => ∃ t a : Nat, t ≤ N ∧ v = .int .i64 t ∧ s = .int .i64 a ∧ Hid (smN (fun t => smN (fun r => bkB x ys r t) (q - 1)) t = a) ∧ Qt w3 wr) (fun _ v _ _ _ => N - (intOf v).toNat)
  case atStart => exact ⟨0, 0, Nat.zero_le _, rfl, rfl, Lib.hid rfl, Qt.refl _⟩
  case round =>
    obtain ⟨t, a, ht, rfl, rfl, HA, hqt⟩ := hrel
    obtain ⟨m0, hm0⟩ := hqt
    have HQ := Lib.hid hm0
    clear hm0
    by_cases htn : t < N
    · obtain ⟨wo, rfl⟩ : ∃ wo, wo = wr := ⟨_, rfl⟩
      have ha : a ≤ t * 1048576 := by have := bk_all_le x ys t (q - 1) (by omega); have := HA.out; omega
      go_wp2
      go_loopw [8, 10, 11] (fun s v _ wr => ∃ r k b : Nat, (r ≤ q ∨ r = 1) ∧ 1 ≤ r ∧ v = .int .i64 r ∧ s = .int .i64 b ∧ Hid (r = k + 1) ∧ Hid (a + smN (fun r => bkB x ys r t) k = b) ∧ Qt w3 wr) (fun _ v _ _ => q - (intOf v).toNat)
      case atStart => exact ⟨1, 0, a, .inr rfl, Nat.le_refl _, rfl, rfl, Lib.hid rfl, Lib.hid rfl, m0, HQ.out⟩
      case round =>
        obtain ⟨r, k, b, hr, hr1, rfl, rfl, HK, HB, hqt⟩ := hrel
        obtain ⟨m1, hm1⟩ := hqt
        have HQ1 := Lib.hid hm1
        have hBw : Below w.heap.size w wr := by rw [hm1]; exact below_drewN HB3.out m1
        have HXw := Lib.hid (HX.out.below hBw)
        have HYw := Lib.hid (HY.out.below hBw)
        clear hm1 hBw
        by_cases hrq : r < q
        · have hk := HK.out
          have hrx : r < x.length := by rw [HN.out]; exact hrq
          have hkx : k < x.length := by omega
          have hb : b ≤ t * 1048576 + 1048576 := by have := bk_row_le x ys t k; have := HB.out; omega
          obtain ⟨b1, o1, e1, hb1, hc1⟩ := HXw.out.at_ r hrx
          obtain ⟨b1', o1', e1', hb1', hc1'⟩ := HXw.out.at_ k hkx
          rw [e1] at e1'
          injection e1' with e1'
          injection e1' with e3 e4
          subst e3 e4
          obtain ⟨b2, o2, e2, hb2, hc2⟩ := HYw.out.at_ r (by rw [HM.out]; exact hrx)
          obtain ⟨b2', o2', e2', hb2', hc2'⟩ := HYw.out.at_ k (by rw [HM.out]; exact hkx)
          rw [e2] at e2'
          injection e2' with e2'
          injection e2' with e3 e4
          subst e3 e4
          have HPr := Lib.hid (fun z => l14Plays_c (wr.drewN z) (S r).1 (R r).1 (pln x r).length (row ys r).length (S r).2.1 (R r).2 (S r).2.2 (pln x r) (row ys r) (t : Int) ((HXw.out.drewN z).rows r hrx) rfl ((HYw.out.drewN z).rows r (by rw [HM.out]; exact hrx)) rfl (HLr.out r hrx).symm)
          have HPk := Lib.hid (fun z => l14Plays_c (wr.drewN z) (S k).1 (R k).1 (pln x k).length (row ys k).length (S k).2.1 (R k).2 (S k).2.2 (pln x k) (row ys k) (t : Int) ((HXw.out.drewN z).rows k hkx) rfl ((HYw.out.drewN z).rows k (by rw [HM.out]; exact hkx)) rfl (HLr.out k hkx).symm)
          have HBk := Lib.hid (show bkB x ys k t = if plF (pln x k) (row ys k) (t : Int) ≠ 0 ∧ plF (pln x k) (row ys k) (t : Int) = plF (pln x r) (row ys r) (t : Int) then 1 else 0 from by rw [hk]; rfl)
          have HSm := Lib.hid (show smN (fun r => bkB x ys r t) (k + 1) = smN (fun r => bkB x ys r t) k + bkB x ys k t from rfl)
          have hr0 : (0 : Int) ≤ (r : Int) - 1 := by omega
          have hr2 : (r : Int) < (q : Int) := by omega
          have hr3 : (r : Int) - 1 < (q : Int) := by omega
          have hr4 : (0 : Int) ≤ (r : Int) := by omega
          have hrk : ((r : Int) - 1).toNat = k := by omega
          rw [e1, e2]
          generalize plF (pln x k) (row ys k) (t : Int) = u at *
          generalize plF (pln x r) (row ys r) (t : Int) = v at *
          have hw1 : IntKind.i64.wrap ((r : Int) - 1) = (r : Int) - 1 := IntWalk.i64_in _ (by omega)
          clear hb1 hb1' hb2 hb2' e1 e2 hk
          go_wp2
          go_quiet ((go_at_call 56; exact quiet_p (HPk.out _)))
          obtain ⟨nq_, hnq_⟩ : ∃ z, z = nq := ⟨_, rfl⟩
          rw [← hnq_]
          obtain ⟨wx, hwx⟩ : ∃ wx, wx = wr.drewN nq_ := ⟨_, rfl⟩
          have HQx := Lib.hid (show wx = w3.drewN (m1 + nq_) by rw [hwx, HQ1.out, World.drewN_drewN])
          have hc1x : wx.cell? ⟨b1, o1 + r, none⟩ = some (.slice (S r).1 (pln x r).length (S r).2.1) := by rw [hwx]; exact hc1
          have hc2x : wx.cell? ⟨b2, o2 + r, none⟩ = some (.slice (R r).1 (row ys r).length (R r).2) := by rw [hwx]; exact hc2
          have HPx := Lib.hid (fun z => (show Calls Try.prog 56 #[.slice (S r).1 (pln x r).length (S r).2.1, .slice (R r).1 (row ys r).length (R r).2, .int .i64 (t : Int)] (wx.drewN z) fun e w' => e = .returned (.int .i64 v) ∧ wx.drewN z = w' from by have := HPr.out (nq_ + z); rw [← World.drewN_drewN, ← hwx] at this; exact this))
          rw [← hwx]
          clear hw1 hwx hc1 hc2 hc1' hc2'
          by_cases hu : u = 0
          · have HB' := Lib.hid (show a + smN (fun r => bkB x ys r t) (k + 1) = b by rw [HSm.out, HBk.out, if_neg (fun h => h.1 hu)]; exact HB.out)
            have hud : (u != 0) = false := by simp [hu]
            have hud2 : (u == 0) = true := by simp [hu]
            clear hu
            go_wp2
            go_quiet (fail)
            clear hc1x hc2x
            go_wp2
            go_roundw
            case rel => exact ⟨r + 1, k + 1, b, .inl (by omega), by omega, by go_num, rfl, Lib.hid (by rw [HK.out]), HB', m1 + nq_ + nq, by rw [HQx.out, World.drewN_drewN]⟩
            case measure => simp [intOf]; omega
          · have hud : (u != 0) = true := by simp [hu]
            have hud2 : (u == 0) = false := by simp [hu]
            by_cases huv : u = v
            · have HB' := Lib.hid (show a + smN (fun r => bkB x ys r t) (k + 1) = b + 1 by rw [HSm.out, HBk.out, if_pos ⟨hu, huv⟩]; have := HB.out; omega)
              have huvd : (u == v) = true := by simp [huv]
              clear hu huv
              go_wp2
              go_quiet ((go_at_call 56; exact quiet_p (HPx.out _)))
              clear hc1x hc2x
              go_wp2
              go_roundw
              case rel => exact ⟨r + 1, k + 1, b + 1, .inl (by omega), by omega, by go_num, by go_num, Lib.hid (by rw [HK.out]), HB', m1 + nq_ + nq, by rw [HQx.out, World.drewN_drewN]⟩
              case measure => simp [intOf]; omega
            · have HB' := Lib.hid (show a + smN (fun r => bkB x ys r t) (k + 1) = b by rw [HSm.out, HBk.out, if_neg (fun h => huv h.2)]; exact HB.out)
              have huvd : (u == v) = false := by simp [huv]
              clear hu huv
              go_wp2
              go_quiet ((go_at_call 56; exact quiet_p (HPx.out _)))
              clear hc1x hc2x
              go_wp2
              go_roundw
              case rel => exact ⟨r + 1, k + 1, b, .inl (by omega), by omega, by go_num, rfl, Lib.hid (by rw [HK.out]), HB', m1 + nq_ + nq, by rw [HQx.out, World.drewN_drewN]⟩
              case measure => simp [intOf]; omega
        · have hkq : k = q - 1 := by have := HK.out; omega
          have HA' := Lib.hid (show smN (fun t => smN (fun r => bkB x ys r t) (q - 1)) (t + 1) = b by rw [smN, HA.out, ← hkq]; exact HB.out)
          clear hkq
          go_wp2
          go_roundw
          case rel => exact ⟨t + 1, b, by omega, by go_num, rfl, HA', m1, HQ1.out⟩
          case measure => simp [intOf]; omega
    · obtain rfl : t = N := by omega
      have HF := Lib.hid (show brN x ys t = a by unfold brN; rw [← smN_swap, HN.out]; exact HA.out)
      have HBf := Lib.hid (show Below w.heap.size w wr by rw [HQ.out]; exact below_drewN HB3.out m0)
      go_wp2
      go_ret2
      exact ⟨by rw [HF.out]; rfl, HBf.out⟩
end Go.Proofs.Ytdcegepkgcflpaa
