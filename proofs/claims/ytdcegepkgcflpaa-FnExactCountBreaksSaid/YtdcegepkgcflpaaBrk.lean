/-
  Homes and places of a round: l14Plays and l14Homes of the reference, places of the program. Conditions: those of each theorem.
-/
import Derived.Test.YtdcegepkgcflpaaBrkP
import Derived.IntWalk
namespace Go.Proofs.Ytdcegepkgcflpaa
open Go.RowKit
set_option linter.unusedVariables false
set_option linter.unusedSimpArgs false

set_option maxHeartbeats 4000000 in
theorem l14Plays_c (w : World) (A B : Option Addr) (n m c d : Nat) (R : Spine) (rd : List (List Int)) (h : List Int) (t : Int) (hr : RdM w A c R rd) (hn : rd.length = n) (hh : RdI w B d h) (hm : h.length = m) (hnm : n = m) :
    Calls Try.prog 56 #[.slice A n c, .slice B m d, .int .i64 t] w fun e w' => e = .returned (.int .i64 (plF rd h t)) ∧ w = w' := by
  subst hnm
  have hn64 : n ≤ 9223372036854775807 := by have h1 := hr.le; have h2 := hr.cap; unfold maxLen at h2; omega
  obtain ⟨T, hT⟩ : ∃ T, T = plF rd h t := ⟨_, rfl⟩
  rw [← hT]
  have HT := Lib.hid hT
  have HR := Lib.hid hr
  have HN := Lib.hid hn
  have HH := Lib.hid hh
  have HM := Lib.hid hm
  clear hr hn hh hm hT
  go_enter Try.func56, Try.ntmps56
  go_wp2
  go_loopw [7] (fun v wr => ∃ k : Nat, k ≤ n ∧ v = .int .i64 k ∧ Hid (∀ j, j < k → plQ rd h t j = false) ∧ wr = w) (fun v _ => n - (intOf v).toNat)
  case atStart => exact ⟨0, Nat.zero_le _, rfl, Lib.hid (fun j hj => absurd hj (by omega)), rfl⟩
  case round =>
    obtain ⟨k, hk, rfl, HQ, rfl⟩ := hrel
    by_cases hlt : k < n
    · have hkx : k < rd.length := by rw [HN.out]; exact hlt
      have hkh : k < h.length := by rw [HM.out]; exact hlt
      obtain ⟨b, off, e, hb, hc⟩ := HR.out.at_ k hkx
      obtain ⟨b2, off2, e2, hb2, hc2⟩ := HH.out.at_ k hkh
      subst e e2
      have hk1 : (0 : Int) ≤ (k : Int) := by omega
      have hk2 : (k : Int) < (n : Int) := by omega
      have HHas := Lib.hid (has_c wr (R k).1 (row rd k).length (R k).2 (row rd k) t (HR.out.rows k hkx) rfl)
      by_cases h1 : nth h k = t
      · have HF := Lib.hid (show T = 1 by rw [HT.out, plF_some hkx (by unfold plQ; rw [decide_eq_true h1]; rfl) HQ.out, if_pos h1])
        have hd : (nth h k == t) = true := by simp [h1]
        clear h1
        generalize nth h k = y at *
        go_wp2
        go_ret
        exact ⟨by rw [HF.out]; rfl, rfl⟩
      · have hd : (nth h k == t) = false := by simp [h1]
        rcases h2 : hasB (row rd k) t with _ | _
        · rw [h2] at HHas
          have HQ' := Lib.hid (show ∀ j, j < k + 1 → plQ rd h t j = false from fun j hj => by
            by_cases e : j = k
            · subst e; unfold plQ; rw [decide_eq_false h1, h2]; rfl
            · exact HQ.out j (by omega))
          clear h1 h2
          generalize nth h k = y at *
          go_wp2_with fail
          refine (HHas.out).mono ?_
          rintro e w' ⟨rfl, rfl⟩
          go_wp2
          go_roundw
          case rel => exact ⟨k + 1, by omega, by go_num, HQ', trivial⟩
          case measure => simp [intOf]; omega
        · rw [h2] at HHas
          have HF := Lib.hid (show T = -1 by rw [HT.out, plF_some hkx (by unfold plQ; rw [h2]; simp) HQ.out, if_neg h1])
          clear h1 h2
          generalize nth h k = y at *
          go_wp2_with fail
          refine (HHas.out).mono ?_
          rintro e w' ⟨rfl, rfl⟩
          go_wp2
          go_ret
          exact ⟨by rw [HF.out]; rfl, rfl⟩
    · obtain rfl : k = n := by omega
      have HF := Lib.hid (show T = 0 by rw [HT.out]; exact plF_none fun i hi => HQ.out i (by rw [← HN.out]; exact hi))
      go_wp2
      go_ret
      exact ⟨by rw [HF.out]; rfl, rfl⟩

set_option maxHeartbeats 4000000 in
theorem places_c (w : World) (N : Nat) (hN : N ≤ 32) (A B : Option Addr) (n m c d : Nat) (R : Spine) (rd : List (List Int)) (h : List Int) (hr : RdM w A c R rd) (hn : rd.length = n) (hh : RdI w B d h) (hm : h.length = m) (hnm : n = m) (hz : n ≤ 1048576) (hz2 : ∀ k, k < n → (row rd k).length ≤ 1048576)
    (hrow : ∀ k, k < n → ∀ z ∈ row rd k, 0 ≤ z ∧ z < (N : Int)) (hhome : ∀ k, k < n → nth h k ∈ row rd k) :
    Calls Try.prog 59 #[.int .i64 (N : Int), .slice A n c, .slice B m d] w (PostS w (tbL (pcF rd h n) N)) := by
  subst hnm
  have HR := Lib.hid hr
  have HN := Lib.hid hn
  have HH := Lib.hid hh
  have HM := Lib.hid hm
  have HZ2 := Lib.hid hz2
  have HRo := Lib.hid hrow
  have HHo := Lib.hid hhome
  clear hr hn hh hm hz2 hrow hhome
  have hmk := fun W : World => run_make_row' (P := Try.prog) 50 2 (.int .i64 0) 8 Try.underlying50 infoI rfl .i64 .i64 N (by omega) (by omega) W
  have HM0 := Lib.hid (OwnI.made w N (by unfold maxLen; omega) (Nat.le_refl w.heap.size))
  have HMb := Lib.hid ((Below.refl w.heap.size w).alloc (Nat.le_refl _) (.cells (madeCells #[.int .i64 0] N) 2))
  obtain ⟨G, hG⟩ : ∃ G, G = w.heap.size := ⟨_, rfl⟩
  go_enter Try.func59, Try.ntmps59
  go_wp2
  rw [← hG] at HM0 HMb ⊢
  generalize (w.alloc (.cells (madeCells #[.int .i64 0] N) 2)) = w3 at *
  have HG := Lib.hid hG
  have HD0 := Lib.hid (show OwnI w3 G (some ⟨G, 0, none⟩) N (tbL (pcF rd h 0) N) from by rw [tbL_zero]; exact HM0.out)
  clear hmk hG
  go_loopw [16] (fun v wr => ∃ k : Nat, k ≤ n ∧ v = .int .i64 k ∧ Hid (OwnI wr G (some ⟨G, 0, none⟩) N (tbL (pcF rd h k) N)) ∧ Hid (Below G w wr)) (fun v _ => n - (intOf v).toNat)
  case atStart => exact ⟨0, Nat.zero_le _, rfl, HD0, HMb⟩
  case round =>
    obtain ⟨k, hk, rfl, HO3, HB3⟩ := hrel
    have HBw := Lib.hid (show Below w.heap.size w wr from by rw [← HG.out]; exact HB3.out)
    by_cases hkn : k < n
    · have hkx : k < rd.length := by rw [HN.out]; exact hkn
      obtain ⟨b, off, e, hb, hc⟩ := HR.out.at_ k hkx
      have hcc := (HBw.out.cell (p := ⟨b, off + k, none⟩) hb).trans hc
      subst e
      have hk1 : (0 : Int) ≤ (k : Int) := by omega
      have hk2 : (k : Int) < (n : Int) := by omega
      have HRk := Lib.hid (HR.out.rows k hkx)
      have hrl := HZ2.out k hkn
      obtain ⟨q, hq⟩ : ∃ q, q = (row rd k).length := ⟨_, rfl⟩
      rw [← hq] at hcc hrl
      have HQ := Lib.hid hq
      have HS := Lib.hid (HRo.out k hkn)
      have HO4 := Lib.hid (show OwnI wr G (some ⟨G, 0, none⟩) N (tbL (piF rd h k 0) N) from by rw [tbL_start]; exact HO3.out)
      clear hc hq
      obtain ⟨wo, rfl⟩ : ∃ wo, wo = wr := ⟨_, rfl⟩
      go_wp2
      go_loopw [23] (fun v wr => ∃ j : Nat, j ≤ q ∧ v = .int .i64 j ∧ Hid (OwnI wr G (some ⟨G, 0, none⟩) N (tbL (piF rd h k j) N)) ∧ Hid (Below G w wr)) (fun v _ => q - (intOf v).toNat)
      case atStart => exact ⟨0, Nat.zero_le _, rfl, HO4, HB3⟩
      case round =>
        obtain ⟨j, hj, rfl, HO5, HB5⟩ := hrel
        have HBw5 := Lib.hid (show Below w.heap.size w wr from by rw [← HG.out]; exact HB5.out)
        by_cases hjq : j < q
        · have hjx : j < (row rd k).length := by rw [← HQ.out]; exact hjq
          obtain ⟨b2, off2, e2, hb2, hc2⟩ := HRk.out.at_ j hjx
          have hcc2 := (HBw5.out.cell (p := ⟨b2, off2 + j, none⟩) hb2).trans hc2
          have hxi := HS.out (nth (row rd k) j) (mem_nth.2 ⟨j, hjx, rfl⟩)
          obtain ⟨x, hx⟩ : ∃ x : Nat, nth (row rd k) j = (x : Int) := ⟨(nth (row rd k) j).toNat, by omega⟩
          have hxP : x < N := by omega
          rw [hx] at hcc2
          obtain ⟨g1, eg1, _, _, hcx, hfx⟩ := HO5.out.at_ (k := x) (by rw [tbL_len]; exact hxP)
          injection eg1 with eg1
          injection eg1 with eg1
          subst eg1
          have hst := HO5.out.stored x (-1)
          rw [piF_step hjx hx] at hst
          have HO6 := Lib.hid hst
          have HB6 := Lib.hid (HB5.out.setCell (p := ⟨G, x, none⟩) (Nat.le_refl _) (.int .i64 (-1)))
          have hx0 : (0 : Int) ≤ (x : Int) := by omega
          have hx1 : (x : Int) < (N : Int) := by omega
          rw [e2]
          clear hc2 hxi hx e2 hb2 hst
          go_wp2
          go_roundw
          case rel => exact ⟨j + 1, by omega, by go_num, HO6, HB6⟩
          case measure => simp [intOf]; omega
        · obtain rfl : j = q := by omega
          have hkh : k < h.length := by rw [HM.out]; exact hkn
          obtain ⟨b2, off2, e2, hb2, hc2⟩ := HH.out.at_ k hkh
          have hcc2 := (HBw5.out.cell (p := ⟨b2, off2 + k, none⟩) hb2).trans hc2
          subst e2
          have hxi := HS.out (nth h k) (HHo.out k hkn)
          obtain ⟨x, hx⟩ : ∃ x : Nat, nth h k = (x : Int) := ⟨(nth h k).toNat, by omega⟩
          have hxP : x < N := by omega
          rw [hx] at hcc2
          obtain ⟨g1, eg1, _, _, hcx, hfx⟩ := HO5.out.at_ (k := x) (by rw [tbL_len]; exact hxP)
          injection eg1 with eg1
          injection eg1 with eg1
          subst eg1
          have hst := HO5.out.stored x 1
          rw [HQ.out, pcF_step hx] at hst
          have HO6 := Lib.hid hst
          have HB6 := Lib.hid (HB5.out.setCell (p := ⟨G, x, none⟩) (Nat.le_refl _) (.int .i64 1))
          have hx0 : (0 : Int) ≤ (x : Int) := by omega
          have hx1 : (x : Int) < (N : Int) := by omega
          clear hc2 hxi hx hb2 hst
          go_wp2
          go_roundw
          case rel => exact ⟨k + 1, by omega, by go_num, HO6, HB6⟩
          case measure => simp [intOf]; omega
    · obtain rfl : k = n := by omega
      have HOf := Lib.hid (show OwnI wr w.heap.size (some ⟨G, 0, none⟩) N (tbL (pcF rd h k) N) from HO3.out.lower (by rw [HG.out]; exact Nat.le_refl _))
      have HLf := Lib.hid (tbL_len (pcF rd h k) N)
      go_wp2
      go_ret
      exact ⟨⟨_, N, N, rfl, HLf.out, HOf.out⟩, HBw.out⟩
end Go.Proofs.Ytdcegepkgcflpaa
