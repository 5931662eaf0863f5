/-
  l00Same of the reference. Conditions: those of each theorem.
-/
import Derived.Test.YtamklliaibfljaaSet
import Derived.Test.YtamklliaibfljaaCmp
namespace Go.Proofs.Ytamklliaibfljaa
open Go.RowKit
set_option linter.unusedVariables false
set_option linter.unusedSimpArgs false

set_option maxHeartbeats 1000000 in
theorem same0_c (w : World) {A A' : Option Addr} {n n' c c' : Nat} {xs ys : List Int} (hx : RdI w A c xs) (hy : RdI w A' c' ys) (hn : xs.length = n) (hn' : ys.length = n') :
    Calls Try.prog 27 #[.slice A n c, .slice A' n' c'] w (EndQ (.bool (decide (xs = ys))) w) := by
  have hm : n ≤ 9223372036854775807 := by have h1 := hx.le; have h2 := hx.cap; unfold maxLen at h2; omega
  have hm' : n' ≤ 9223372036854775807 := by have h1 := hy.le; have h2 := hy.cap; unfold maxLen at h2; omega
  by_cases hl : n = n'
  · subst hl
    have HX := Lib.hid hx
    have HY := Lib.hid hy
    have HN := Lib.hid hn
    have HN' := Lib.hid hn'
    obtain ⟨T, hT⟩ : ∃ T, T = decide (xs = ys) := ⟨_, rfl⟩
    rw [← hT]
    have HT := Lib.hid (show T = decide (∀ k, k < xs.length → nth xs k = nth ys k) by rw [hT]; exact decide_eq_decide.2 (same_nth (hn.trans hn'.symm)).symm)
    clear hx hy hn hn' hT
    go_enter Try.func27, Try.ntmps27
    go_wp2
    go_loopw [5] (fun i wr => ∃ k : Nat, k ≤ n ∧ i = .int .i64 k ∧ Qt w wr ∧ Hid (∀ j, j < k → nth xs j = nth ys j)) (fun i _ => n - (intOf i).toNat)
    case atStart => exact ⟨0, Nat.zero_le _, rfl, Qt.refl w, fun j hj => absurd hj (by omega)⟩
    case round =>
      obtain ⟨k, hk, rfl, ⟨m, rfl⟩, HEq⟩ := hrel
      by_cases hlt : k < n
      · obtain ⟨b, off, e, hb, hc⟩ := HX.out.at_ k (by rw [HN.out]; exact hlt)
        obtain ⟨b', off', e', hb', hc'⟩ := HY.out.at_ k (by rw [HN'.out]; exact hlt)
        subst e e'
        have hk0 : (0 : Int) ≤ (k : Int) := by omega
        have hk1 : (k : Int) < (n : Int) := by omega
        by_cases hfg : nth xs k = nth ys k
        · have hne : (nth xs k != nth ys k) = false := by simp [hfg]
          have HE2 := Lib.hid (show ∀ j, j < k + 1 → nth xs j = nth ys j from fun j hj => by
            by_cases e : j = k
            · subst e; exact hfg
            · exact HEq.out j (by omega))
          clear hfg
          go_wp2
          go_quiet (fail)
          go_wp2
          go_roundw
          case rel => exact ⟨k + 1, by omega, by go_num, by first | exact qt2 _ _ _ | exact ⟨_, by rw [World.drewN_drewN]⟩ | exact ⟨_, rfl⟩, HE2⟩
          case measure => simp [intOf]; omega
        · have hne : (nth xs k != nth ys k) = true := by simp [hfg]
          have HF := Lib.hid (show T = false by rw [HT.out]; exact decide_eq_false fun h => hfg (h k (by rw [HN.out]; exact hlt)))
          clear hfg
          go_wp2
          go_quiet (fail)
          go_wp2
          go_ret
          exact ⟨ret_b HF.out.symm, by first | exact qt2 _ _ _ | exact ⟨_, by rw [World.drewN_drewN]⟩ | exact ⟨_, rfl⟩⟩
      · obtain rfl : k = n := by omega
        have HF := Lib.hid (show T = true by rw [HT.out]; exact decide_eq_true (by rw [HN.out]; exact HEq.out))
        go_wp2
        go_ret
        exact ⟨ret_b HF.out.symm, m, rfl⟩
  · have hd : ((n : Int) != (n' : Int)) = true := by rw [bne_iff_ne]; omega
    have hd2 : (n != n') = true := by rw [bne_iff_ne]; exact hl
    rw [decide_eq_false (fun e => hl (by rw [← hn, ← hn', e]))]
    clear hx hy hn hn'
    go_enter Try.func27, Try.ntmps27
    go_wp2
    go_ret
    exact ⟨rfl, 0, rfl⟩
end Go.Proofs.Ytamklliaibfljaa
