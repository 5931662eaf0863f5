/-
  Lists of lists that are the same: l10Same of the reference, slices.EqualFunc, areSame and SameDesign of the program. Conditions: those of each theorem.
-/
import Derived.Test.YtdcegepkgcflpaaMult
namespace Go.Proofs.Ytdcegepkgcflpaa
open Go.RowKit
set_option linter.unusedVariables false
set_option linter.unusedSimpArgs false

theorem rows_ext {xss yss : List (List Int)} (hl : xss.length = yss.length) (h : ∀ k, k < xss.length → row xss k = row yss k) : xss = yss := by
  apply List.ext_getElem hl
  intro k h1 h2
  have := h k h1
  rwa [row_eq h1, row_eq h2] at this

set_option maxHeartbeats 2000000 in
theorem l10Same_c (w : World) (A B : Option Addr) (n m c d : Nat) (R S : Spine) (xss yss : List (List Int)) (hx : RdM w A c R xss) (hn : xss.length = n) (hy : RdM w B d S yss) (hm : yss.length = m) :
    Calls Try.prog 43 #[.slice A n c, .slice B m d] w (EndQ (.bool (decide (xss = yss))) w) := by
  have hn64 : n ≤ 9223372036854775807 := by have h1 := hx.le; have h2 := hx.cap; unfold maxLen at h2; omega
  have hm64 : m ≤ 9223372036854775807 := by have h1 := hy.le; have h2 := hy.cap; unfold maxLen at h2; omega
  obtain ⟨T, hT⟩ : ∃ T, T = decide (xss = yss) := ⟨_, rfl⟩
  rw [← hT]
  have HT := Lib.hid hT
  have HX := Lib.hid hx
  have HY := Lib.hid hy
  have HN := Lib.hid hn
  have HM := Lib.hid hm
  clear hx hy hn hm hT
  by_cases hl : n = m
  rotate_left
  · have hd : ((n : Int) != (m : Int)) = true := by simp; omega
    have hd2 : ((n : Int) == (m : Int)) = false := by simp; omega
    have HF := Lib.hid (show T = false by rw [HT.out]; exact decide_eq_false (fun h => hl (by rw [← HN.out, ← HM.out, h])))
    clear hl
    go_enter Try.func43, Try.ntmps43
    go_wp2
    go_ret
    exact ⟨ret_b HF.out.symm, 0, rfl⟩
  subst hl
  go_enter Try.func43, Try.ntmps43
  go_wp2
  go_loopw [5] (fun v wr => ∃ k : Nat, k ≤ n ∧ v = .int .i64 k ∧ Hid (∀ j, j < k → row xss j = row yss j) ∧ Qt w wr) (fun v _ => n - (intOf v).toNat)
  case atStart => exact ⟨0, Nat.zero_le _, rfl, Lib.hid (fun j hj => absurd hj (by omega)), Qt.refl _⟩
  case round =>
    obtain ⟨k, hk, rfl, HE, hq⟩ := hrel
    obtain ⟨m0, hm0⟩ := hq
    have HQ := Lib.hid hm0
    have HXw := Lib.hid (show RdM wr A c R xss by rw [hm0]; exact HX.out.drewN m0)
    have HYw := Lib.hid (show RdM wr B d S yss by rw [hm0]; exact HY.out.drewN m0)
    clear hm0
    by_cases hlt : k < n
    · have hkx : k < xss.length := by rw [HN.out]; exact hlt
      have hky : k < yss.length := by rw [HM.out]; exact hlt
      obtain ⟨b, off, e, hb, hc⟩ := HXw.out.at_ k hkx
      obtain ⟨b2, off2, e2, hb2, hc2⟩ := HYw.out.at_ k hky
      subst e e2
      have hk1 : (0 : Int) ≤ (k : Int) := by omega
      have hk2 : (k : Int) < (n : Int) := by omega
      have HC := Lib.hid (fun q => same_c (wr.drewN q) ((HXw.out.drewN q).rows k hkx) ((HYw.out.drewN q).rows k hky) rfl rfl)
      clear hb hb2
      by_cases he : row xss k = row yss k
      · rw [decide_eq_true he] at HC
        have HE' := Lib.hid (show ∀ j, j < k + 1 → row xss j = row yss j from fun j hj => by
          by_cases e : j = k
          · rw [e]; exact he
          · exact HE.out j (by omega))
        clear he
        go_wp2
        go_quiet ((go_at_call 77; first | (with_reducible exact quiet_endN (HC.out _)) | (with_reducible exact quiet_end0 (HC.out _))))
        clear hc hc2
        go_wp2
        go_roundw
        case rel => exact ⟨k + 1, by omega, by go_num, HE', m0 + nq, by rw [HQ.out, World.drewN_drewN]⟩
        case measure => simp [intOf]; omega
      · rw [decide_eq_false he] at HC
        have HF := Lib.hid (show T = false by rw [HT.out]; exact decide_eq_false (fun h => he (by rw [h])))
        clear he
        go_wp2
        go_quiet ((go_at_call 77; first | (with_reducible exact quiet_endN (HC.out _)) | (with_reducible exact quiet_end0 (HC.out _))))
        clear hc hc2
        go_wp2
        go_ret
        exact ⟨ret_b HF.out.symm, m0 + nq, by rw [HQ.out, World.drewN_drewN]⟩
    · obtain rfl : k = n := by omega
      have HF := Lib.hid (show T = true by rw [HT.out]; exact decide_eq_true (rows_ext (by rw [HN.out, HM.out]) (fun j hj => HE.out j (by rw [← HN.out]; exact hj))))
      go_wp2
      go_ret
      exact ⟨ret_b HF.out.symm, m0, HQ.out⟩

set_option maxHeartbeats 2000000 in
theorem equalFunc_c (w : World) (A B : Option Addr) (n m c d : Nat) (R S : Spine) (xss yss : List (List Int)) (hx : RdM w A c R xss) (hn : xss.length = n) (hy : RdM w B d S yss) (hm : yss.length = m) :
    Calls Try.prog 120 #[.slice A n c, .slice B m d, .func (.func 121) #[] #[]] w (EndQ (.bool (decide (xss = yss))) w) := by
  have eg := enters_of Try.func121 (by kernel_rfl) rfl
  have hn64 : n ≤ 9223372036854775807 := by have h1 := hx.le; have h2 := hx.cap; unfold maxLen at h2; omega
  have hm64 : m ≤ 9223372036854775807 := by have h1 := hy.le; have h2 := hy.cap; unfold maxLen at h2; omega
  obtain ⟨T, hT⟩ : ∃ T, T = decide (xss = yss) := ⟨_, rfl⟩
  rw [← hT]
  have HT := Lib.hid hT
  have HX := Lib.hid hx
  have HY := Lib.hid hy
  have HN := Lib.hid hn
  have HM := Lib.hid hm
  clear hx hy hn hm hT
  by_cases hl : n = m
  rotate_left
  · have hd : ((n : Int) != (m : Int)) = true := by simp; omega
    have hd2 : ((n : Int) == (m : Int)) = false := by simp; omega
    have HF := Lib.hid (show T = false by rw [HT.out]; exact decide_eq_false (fun h => hl (by rw [← HN.out, ← HM.out, h])))
    clear hl
    go_enter Try.func120, Try.ntmps120
    go_wp2
    go_ret
    exact ⟨ret_b HF.out.symm, 0, rfl⟩
  subst hl
  go_enter Try.func120, Try.ntmps120
  go_wp2
  go_loopw [17] (fun v wr => ∃ k : Nat, k ≤ n ∧ v = .int .i64 k ∧ Hid (∀ j, j < k → row xss j = row yss j) ∧ Qt w wr) (fun v _ => n - (intOf v).toNat)
  case atStart => exact ⟨0, Nat.zero_le _, rfl, Lib.hid (fun j hj => absurd hj (by omega)), Qt.refl _⟩
  case round =>
    obtain ⟨k, hk, rfl, HE, hq⟩ := hrel
    obtain ⟨m0, hm0⟩ := hq
    have HQ := Lib.hid hm0
    have HXw := Lib.hid (show RdM wr A c R xss by rw [hm0]; exact HX.out.drewN m0)
    have HYw := Lib.hid (show RdM wr B d S yss by rw [hm0]; exact HY.out.drewN m0)
    clear hm0
    by_cases hlt : k < n
    · have hkx : k < xss.length := by rw [HN.out]; exact hlt
      have hky : k < yss.length := by rw [HM.out]; exact hlt
      obtain ⟨b, off, e, hb, hc⟩ := HXw.out.at_ k hkx
      obtain ⟨b2, off2, e2, hb2, hc2⟩ := HYw.out.at_ k hky
      subst e e2
      have hk1 : (0 : Int) ≤ (k : Int) := by omega
      have hk2 : (k : Int) < (n : Int) := by omega
      have HC := Lib.hid (equal_c wr (HXw.out.rows k hkx) (HYw.out.rows k hky) rfl rfl)
      clear hb hb2
      by_cases he : row xss k = row yss k
      · rw [decide_eq_true he] at HC
        have HE' := Lib.hid (show ∀ j, j < k + 1 → row xss j = row yss j from fun j hj => by
          by_cases e : j = k
          · rw [e]; exact he
          · exact HE.out j (by omega))
        clear he
        go_wp2_with fail
        refine (HC.out).mono ?_
        rintro e w' ⟨rfl, q2, rfl⟩
        clear hc hc2
        go_wp2
        go_roundw
        case rel => exact ⟨k + 1, by omega, by go_num, HE', m0 + q2, by rw [HQ.out, World.drewN_drewN]⟩
        case measure => simp [intOf]; omega
      · rw [decide_eq_false he] at HC
        have HF := Lib.hid (show T = false by rw [HT.out]; exact decide_eq_false (fun h => he (by rw [h])))
        clear he
        go_wp2_with fail
        refine (HC.out).mono ?_
        rintro e w' ⟨rfl, q2, rfl⟩
        go_wp2
        go_ret
        exact ⟨ret_b HF.out.symm, m0 + q2, by rw [HQ.out, World.drewN_drewN]⟩
    · obtain rfl : k = n := by omega
      have HF := Lib.hid (show T = true by rw [HT.out]; exact decide_eq_true (rows_ext (by rw [HN.out, HM.out]) (fun j hj => HE.out j (by rw [← HN.out]; exact hj))))
      go_wp2
      go_ret
      exact ⟨ret_b HF.out.symm, m0, HQ.out⟩

set_option maxHeartbeats 1000000 in
theorem areSame_c (w : World) (A B : Option Addr) (n m c d : Nat) (R S : Spine) (xss yss : List (List Int)) (hx : RdM w A c R xss) (hn : xss.length = n) (hy : RdM w B d S yss) (hm : yss.length = m) :
    Calls Try.prog 79 #[.slice A n c, .slice B m d] w (EndQ (.bool (decide (xss = yss))) w) := by
  have HC := Lib.hid (equalFunc_c w A B n m c d R S xss yss hx hn hy hm)
  clear hx hn hy hm
  go_enter Try.func79, Try.ntmps79
  go_wp2_with fail
  refine (HC.out).mono ?_
  rintro e w' ⟨rfl, q, rfl⟩
  go_wp2
  go_ret
  exact ⟨rfl, q, rfl⟩

set_option maxHeartbeats 1000000 in
theorem SameDesign_c (w : World) (p : Int) (A B : Option Addr) (n m c d : Nat) (R S : Spine) (xss yss : List (List Int)) (hx : RdM w A c R xss) (hn : xss.length = n) (hy : RdM w B d S yss) (hm : yss.length = m) :
    Calls Try.prog 46 #[.agg #[.int .i64 p, .slice A n c], .agg #[.int .i64 p, .slice B m d]] w (PostV w (.bool (decide (xss = yss)))) := by
  have hB : Below w.heap.size w ((w.alloc (.cells #[.int .i64 p, .slice A n c] 25)).alloc (.cells #[.int .i64 p, .slice B m d] 25)) := (below_boxed _ _).alloc (by simp) _
  have HC := Lib.hid (areSame_c _ A B n m c d R S xss yss (hx.below hB) hn (hy.below hB) hm)
  have HB := Lib.hid hB
  clear hx hn hy hm hB
  go_enter Try.func46, Try.ntmps46
  go_wp2_with fail
  refine (HC.out).mono ?_
  rintro e w' ⟨rfl, q, rfl⟩
  have HB2 := Lib.hid (below_drewN HB.out q)
  go_wp2
  go_ret
  exact ⟨rfl, HB2.out⟩
end Go.Proofs.Ytdcegepkgcflpaa
