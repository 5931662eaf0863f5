/-
  The reference's search for a resolution: run, one step: a class is begun. Conditions: those of each theorem.
-/
import Derived.Test.YthgbfgdnljgicabRslS
import Derived.Test.YthgbfgdnljgicabRslG
namespace Go.Proofs.Ythgbfgdnljgicab
open Go.RowKit
set_option linter.unusedVariables false
set_option linter.unusedSimpArgs false

set_option maxRecDepth 100000 in
set_option maxHeartbeats 4000000 in
theorem run_begin (w0 : World) {g P : Nat} {A : Option Addr} {n c gu bud : Nat} {xss : List (List Int)} {f : Nat} (hR : RunAt w0 g P A n c gu bud xss f) (hg : w0.heap.size ≤ g) (hn : xss.length = n) (hn128 : n ≤ 128) (hb2 : bud ≤ 20000) (hrow : rowsNodup xss)
    (w : World) {done : List (List Int)} {left nodes : Nat} {K : Option Addr} {kc : Nat} {Rk : Spine} {A5 : Option Addr} {c5 : Nat} (hok : RsOk xss done []) (hm : rsM xss done [] < f + 1) (hl : nodes + left = bud)
    (h : FdW w0 w w g P A n c gu K done.length kc nodes bud false Rk (done.map sortL) (covV n (rsU done []))) (hc : OwnI w w0.heap.size A5 c5 (sortL [])) :
    Calls Try.prog 16 #[.pointer (some ⟨g, 0, none⟩), .slice A5 0 c5] w (RunPost w0 w g P A n c gu bud done [] (srch xss P (f + 1) done [] left)) := by
  obtain ⟨_, q1, q2, _, _, _, _⟩ := fd_cells h.ob
  obtain ⟨U, hU⟩ : ∃ U, U = rsU done [] := ⟨_, rfl⟩
  have HUe := Lib.hid hU
  have H := Lib.hid h
  have HFl := Lib.hid (fun (j : Nat) (hj : j < n) => (show w.cell? ⟨gu, j, none⟩ = some (.bool (hasB U (j : Int))) from by
    have := (h.us.at_ hj).1
    rw [covV_flag hj, ← hU] at this
    exact this))
  obtain ⟨r, hr⟩ : ∃ r, r = srch xss P (f + 1) done [] left := ⟨_, rfl⟩
  rw [← hr]
  have HEnd := Lib.hid (fun (ha : ∀ j : Nat, j < n → hasB U (j : Int) = true) => (show r = .yes done from by
    rw [hr]
    refine srch_b1 ?_
    rw [← hU, hn, gapI_miss ha]
    omega))
  have HTry := Lib.hid (fun (k : Nat) (hk : k < n) (h1 : hasB U (k : Int) = false) (h2 : ∀ j : Nat, j < k → hasB U (j : Int) = true) => (show Calls Try.prog 33 #[.pointer (some ⟨g, 0, none⟩), .slice A5 0 c5, .int .i64 (k : Int)] w (RunPost w0 w g P A n c gu bud done [] r) from by
    have hgap : gapI xss.length (rsU done []) = (k : Int) := by rw [← hU, hn]; exact gapI_hit hk h1 h2
    rw [hr]
    rcases left with _ | l
    · rw [srch_b2 (by omega)]
      obtain rfl : nodes = bud := by omega
      exact try0_c w0 w hg 0 c5 k h
    · rw [srch_b3 hgap]
      have hku : (k : Int) ∉ rsU done [] := fun hm => by rw [← hU, ← hasB_true, h1] at hm; cases hm
      obtain ⟨hok1, hm1⟩ := hok.begin_ hrow (show k < xss.length by omega) hku
      exact try1_c w0 w (cls := []) hR hg hn hn128 hb2 hok1 (show rsM xss done ([] ++ [(k : Int)]) < f from by show rsM xss done [(k : Int)] < f; omega) hl h hc))
  clear h hc hR hok hm hl hr hU hrow
  go_enter Try.func16, Try.ntmps16
  go_wp2
  go_loop [9] (fun i => ∃ k : Nat, k ≤ n ∧ i = .int .i64 k ∧ Hid (∀ j : Nat, j < k → hasB U (j : Int) = true)) (fun i => n - (intOf i).toNat)
  case atStart => exact ⟨0, Nat.zero_le _, rfl, Lib.hid (fun j hj => absurd hj (by omega))⟩
  case round =>
    obtain ⟨k, hk, rfl, HA⟩ := hrel
    by_cases hkn : k < n
    · have hcu := HFl.out k hkn
      have hk0 : (0 : Int) ≤ (k : Int) := by omega
      have hk1 : (k : Int) < (n : Int) := by omega
      rcases hh : hasB U (k : Int) with _ | _
      · have HT := Lib.hid (HTry.out k hkn hh HA.out)
        rw [hh] at hcu
        clear hh
        go_wp2_with fail
        refine (HT.out).mono ?_
        intro e w3 hp
        obtain ⟨b, rfl⟩ := run_ret hp
        have HP := Lib.hid hp
        clear hp
        go_wp2
        go_ret
        exact HP.out
      · have HA2 := Lib.hid (show ∀ j : Nat, j < k + 1 → hasB U (j : Int) = true from fun j hj => by
          by_cases e : j = k
          · subst e; exact hh
          · exact HA.out j (by omega))
        rw [hh] at hcu
        clear hh
        go_wp2
        go_round
        case rel => exact ⟨k + 1, by omega, by go_num, HA2⟩
        case measure => simp [intOf]; omega
    · obtain rfl : k = n := by omega
      have HE := Lib.hid (HEnd.out HA.out)
      go_wp2
      go_ret
      rw [HE.out]
      exact ⟨rfl, H.out.fr, H.out.bl, nodes, false, K, kc, Rk, H.out.ob, H.out.ks⟩
end Go.Proofs.Ythgbfgdnljgicab
