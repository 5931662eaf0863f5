/-
  l14Homes of the reference; CountBreaks of the reference. Conditions: those of each theorem.
-/
import Derived.Test.YtdcegepkgcflpaaBrk
namespace Go.Proofs.Ytdcegepkgcflpaa
open Go.RowKit
set_option linter.unusedVariables false
set_option linter.unusedSimpArgs false

set_option maxHeartbeats 4000000 in
theorem l14Homes_c (w : World) (A B : Option Addr) (q m c d : Nat) (S : Spine3) (R : Spine) (x : List (List (List Int))) (ys : List (List Int)) (hr : RdL w A c S x) (hq : x.length = q) (hy : RdM w B d R ys) (hm : ys.length = m) :
    Calls Try.prog 55 #[.slice A q c, .slice B m d] w (EndQ (.bool (hmB x ys)) w) := by
  have hq64 : q ≤ 9223372036854775807 := by have h1 := hr.le; have h2 := hr.cap; unfold maxLen at h2; omega
  have hm64 : m ≤ 9223372036854775807 := by have h1 := hy.le; have h2 := hy.cap; unfold maxLen at h2; omega
  have hxl : ∀ k, k < x.length → (pln x k).length ≤ 9223372036854775807 := fun k hk => by have h1 := (hr.rows k hk).le; have h2 := (hr.rows k hk).cap; unfold maxLen at h2; omega
  have hyl : ∀ k, k < ys.length → (row ys k).length ≤ 9223372036854775807 := fun k hk => by have h1 := (hy.rows k hk).le; have h2 := (hy.rows k hk).cap; unfold maxLen at h2; omega
  have HXl := Lib.hid hxl
  have HYl := Lib.hid hyl
  obtain ⟨T, hT⟩ : ∃ T, T = hmB x ys := ⟨_, rfl⟩
  rw [← hT]
  have HT := Lib.hid hT
  have HX := Lib.hid hr
  have HY := Lib.hid hy
  have HN := Lib.hid hq
  have HM := Lib.hid hm
  clear hr hy hq hm hT hxl hyl
  by_cases hl : q = m
  rotate_left
  · have hd : ((q : Int) != (m : Int)) = true := by simp; omega
    have hd2 : ((q : Int) == (m : Int)) = false := by simp; omega
    have HF := Lib.hid (show T = false by rw [HT.out]; exact decide_eq_false (fun h => hl (by rw [← HN.out, ← HM.out, h.1])))
    clear hl
    go_enter Try.func55, Try.ntmps55
    go_wp2
    go_ret
    exact ⟨ret_b HF.out.symm, 0, rfl⟩
  subst hl
  go_enter Try.func55, Try.ntmps55
  go_wp2
  go_loopw [5, 6] (fun v _ wr => ∃ k : Nat, k ≤ q ∧ v = .int .i64 k ∧ Hid (hmOk x ys k) ∧ Qt w wr) (fun v _ _ => q - (intOf v).toNat)
  case atStart => exact ⟨0, Nat.zero_le _, rfl, Lib.hid (fun j hj => absurd hj (by omega)), Qt.refl _⟩
  case round =>
    obtain ⟨k, hk, rfl, HE, hqt⟩ := hrel
    obtain ⟨m0, hm0⟩ := hqt
    have HQ := Lib.hid hm0
    have HXw := Lib.hid (show RdL wr A c S x by rw [hm0]; exact HX.out.drewN m0)
    have HYw := Lib.hid (show RdM wr B d R ys by rw [hm0]; exact HY.out.drewN m0)
    clear hm0
    by_cases hlt : k < q
    · have hkx : k < x.length := by rw [HN.out]; exact hlt
      have hky : k < ys.length := by rw [HM.out]; exact hlt
      obtain ⟨b, off, e, hb, hc⟩ := HXw.out.at_ k hkx
      obtain ⟨b2, off2, e2, hb2, hc2⟩ := HYw.out.at_ k hky
      subst e e2
      have hk1 : (0 : Int) ≤ (k : Int) := by omega
      have hk2 : (k : Int) < (q : Int) := by omega
      have HPx := Lib.hid (HXw.out.rows k hkx)
      have HPy := Lib.hid (HYw.out.rows k hky)
      have hxlk := HXl.out k hkx
      have hylk := HYl.out k hky
      obtain ⟨lx, hlx⟩ : ∃ lx, lx = (pln x k).length := ⟨_, rfl⟩
      obtain ⟨ly, hly⟩ : ∃ ly, ly = (row ys k).length := ⟨_, rfl⟩
      rw [← hlx] at hc hxlk
      rw [← hly] at hc2 hylk
      have HLx := Lib.hid hlx
      have HLy := Lib.hid hly
      clear hb hb2 hlx hly
      by_cases hll : lx = ly
      rotate_left
      · have hd : ((lx : Int) != (ly : Int)) = true := by simp; omega
        have hd2 : ((lx : Int) == (ly : Int)) = false := by simp; omega
        have HF := Lib.hid (show T = false by
          rw [HT.out]
          refine decide_eq_false (fun h => hll ?_)
          rw [HLx.out, HLy.out]
          exact (h.2 k hkx).1.symm)
        clear hll
        go_wp2
        go_quiet (fail)
        clear hc hc2
        go_wp2
        go_ret
        exact ⟨ret_b HF.out.symm, m0 + nq, by rw [HQ.out, World.drewN_drewN]⟩
      subst hll
      have hd : ((lx : Int) != (lx : Int)) = false := by simp
      go_wp2
      go_quiet (fail)
      have HQ2 := Lib.hid (show wr.drewN nq = w.drewN (m0 + nq) by rw [HQ.out, World.drewN_drewN])
      obtain ⟨wo, hwo⟩ : ∃ wo, wo = wr.drewN nq := ⟨_, rfl⟩
      rw [← hwo] at HQ2 ⊢
      clear hc hc2 hwo
      go_wp2
      go_loopw [6] (fun v wr => ∃ i : Nat, i ≤ lx ∧ v = .int .i64 i ∧ Hid (∀ j, j < i → hasB (row (pln x k) j) (nth (row ys k) j) = true) ∧ Qt w wr) (fun v _ => lx - (intOf v).toNat)
      case atStart => exact ⟨0, Nat.zero_le _, rfl, Lib.hid (fun j hj => absurd hj (by omega)), ⟨_, HQ2.out⟩⟩
      case round =>
        obtain ⟨i, hi, rfl, HI, hqt⟩ := hrel
        obtain ⟨m1, hm1⟩ := hqt
        have HQ1 := Lib.hid hm1
        have HXv := Lib.hid (show RdL wr (some ⟨b, off, none⟩) c S x by rw [hm1]; exact HX.out.drewN m1)
        have HYv := Lib.hid (show RdM wr (some ⟨b2, off2, none⟩) d R ys by rw [hm1]; exact HY.out.drewN m1)
        clear hm1
        obtain ⟨b', off', e, hb, hc⟩ := HXv.out.at_ k hkx
        injection e with e
        injection e with e e'
        subst e e'
        obtain ⟨b2', off2', e, hb2, hc2⟩ := HYv.out.at_ k hky
        injection e with e
        injection e with e e'
        subst e e'
        rw [← HLx.out] at hc
        rw [← HLy.out] at hc2
        by_cases hilt : i < lx
        · have hix : i < (pln x k).length := by rw [← HLx.out]; exact hilt
          have hiy : i < (row ys k).length := by rw [← HLy.out]; exact hilt
          obtain ⟨b3, off3, e3, hb3, hc3⟩ := (HXv.out.rows k hkx).at_ i hix
          obtain ⟨b4, off4, e4, hb4, hc4⟩ := (HYv.out.rows k hky).at_ i hiy
          rw [e3] at hc
          rw [e4] at hc2
          have hi1 : (0 : Int) ≤ (i : Int) := by omega
          have hi2 : (i : Int) < (lx : Int) := by omega
          have HHas := Lib.hid (fun z => has_c (wr.drewN z) ((S k).2.2 i).1 (row (pln x k) i).length ((S k).2.2 i).2 (row (pln x k) i) (nth (row ys k) i) ((((HXv.out.rows k hkx).rows i hix)).drewN z) rfl)
          clear hb hb2 hb3 hb4 e3 e4
          rcases hh : hasB (row (pln x k) i) (nth (row ys k) i) with _ | _
          · rw [hh] at HHas
            have HF := Lib.hid (show T = false by
              rw [HT.out]
              refine decide_eq_false (fun h => ?_)
              have := (h.2 k hkx).2 i hix
              rw [hh] at this; cases this)
            clear hh
            generalize nth (row ys k) i = yv at *
            go_wp2
            go_quiet ((go_at_call 100; exact quiet_p (HHas.out _)))
            clear hc hc2 hc3 hc4
            go_wp2
            go_ret
            exact ⟨ret_b HF.out.symm, m1 + nq, by rw [HQ1.out, World.drewN_drewN]⟩
          · rw [hh] at HHas
            have HI' := Lib.hid (show ∀ j, j < i + 1 → hasB (row (pln x k) j) (nth (row ys k) j) = true from fun j hj => by
              by_cases e : j = i
              · rw [e]; exact hh
              · exact HI.out j (by omega))
            clear hh
            generalize nth (row ys k) i = yv at *
            go_wp2
            go_quiet ((go_at_call 100; exact quiet_p (HHas.out _)))
            clear hc hc2 hc3 hc4
            go_wp2
            go_roundw
            case rel => exact ⟨i + 1, by omega, by go_num, HI', m1 + nq, by rw [HQ1.out, World.drewN_drewN]⟩
            case measure => simp [intOf]; omega
        · obtain rfl : i = lx := by omega
          have HE' := Lib.hid (show hmOk x ys (k + 1) from fun r hr => by
            by_cases e : r = k
            · subst e; exact ⟨by rw [← HLx.out, ← HLy.out], fun j hj => HI.out j (by rw [HLx.out]; exact hj)⟩
            · exact HE.out r (by omega))
          clear hb hb2
          go_wp2
          go_roundw
          case rel => exact ⟨k + 1, by omega, by go_num, HE', m1, HQ1.out⟩
          case measure => simp [intOf]; omega
    · obtain rfl : k = q := by omega
      have HF := Lib.hid (show T = true by rw [HT.out]; exact decide_eq_true ⟨by rw [HN.out, HM.out], by rw [HN.out]; exact HE.out⟩)
      go_wp2
      go_ret
      exact ⟨ret_b HF.out.symm, m0, HQ.out⟩
end Go.Proofs.Ytdcegepkgcflpaa
