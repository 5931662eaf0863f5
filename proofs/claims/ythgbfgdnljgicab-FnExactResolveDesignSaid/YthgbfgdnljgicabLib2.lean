/-
  The laws' helpers that write or count: markInt64S, heldInt64S, szInt64S, toInt64S and their kin over slices of slices. Conditions: those of each theorem.
-/
import Derived.Test.YthgbfgdnljgicabLib
namespace Go.Proofs.Ythgbfgdnljgicab
open Go.RowKit
set_option linter.unusedVariables false
set_option linter.unusedSimpArgs false

set_option maxHeartbeats 400000 in
/-- markInt64S writes k0, k0 + 1, .. into the slice. -/
theorem markS (w : World) (lo : Nat) (A : Option Addr) (c : Nat) (xs : List Int) (n : Nat) (k0 : Int) (hown : OwnI w lo A c xs) (hn : xs.length = n) (h0 : 0 ≤ k0) (hb : k0 + (n : Int) ≤ 4611686018427387904) :
    Calls Try.prog 23 #[.slice A n c, .int .i64 k0] w fun e w' => e = .returned (.int .i64 (k0 + n)) ∧ OwnI w' lo A c (upFrom k0 n) ∧ w.grownBy w' (blk A) := by
  have HN := Lib.hid hn
  clear hn
  have hc0 : c ≤ maxLen := by have := hown.rd.cap; exact this
  have hnc : n ≤ c := by have := hown.rd.le; rw [HN.out] at this; exact this
  unfold maxLen at hc0
  go_enter Try.func23, Try.ntmps23
  go_wp2
  go_loopw [1, 5] (fun q i wr => ∃ k : Nat, k ≤ n ∧ i = .int .i64 k ∧ q = .int .i64 (k0 + k) ∧ OwnI wr lo A c (mkd k0 k xs) ∧ w.grownBy wr (blk A)) (fun _ i _ => n - (intOf i).toNat)
  case atStart => exact ⟨0, Nat.zero_le _, rfl, by simp, by rw [mkd_zero]; exact hown, (⟨rfl, rfl, rfl, Nat.le_refl _, fun _ _ _ => rfl⟩ : w.grownBy w (blk A))⟩
  case round =>
    obtain ⟨k, hk, rfl, rfl, ho, hg⟩ := hrel
    by_cases hlt : k < n
    · obtain ⟨g, rfl, hlo, hgs, hc, hf⟩ := ho.at_ (k := k) (by rw [length_mkd (by rw [HN.out]; exact hk), HN.out]; exact hlt)
      have hs := ho.stored k (k0 + k)
      rw [mkd_set (by rw [HN.out]; exact hlt)] at hs
      have hg2 := grownBy_trans hg (grownBy_setCell wr ⟨g, k, none⟩ (.int .i64 (k0 + k)))
      have HO := Lib.hid hs
      have HG := Lib.hid hg2
      clear ho hs hg hg2
      go_wp2
      go_roundw
      case rel => exact ⟨k + 1, by omega, by go_num, by go_num, HO.out, HG.out⟩
      case measure => simp [intOf]; omega
    · obtain rfl : k = n := by omega
      have ho' : OwnI wr lo A c (upFrom k0 k) := by
        have e := mkd_all k0 xs
        rw [HN.out] at e
        rw [← e]; exact ho
      have HO := Lib.hid ho'
      have HG := Lib.hid hg
      clear ho ho' hg hown
      go_wp2
      go_ret
      exact ⟨rfl, HO.out, HG.out⟩

set_option maxHeartbeats 400000 in
/-- heldInt64S counts on where the slice holds k0, k0 + 1, .. -/
theorem heldS (w : World) (A : Option Addr) (n c : Nat) (k0 : Int) (hA : At w A n (fun k => k0 + (k : Int))) (h0 : 0 ≤ k0) (hb : k0 + (n : Int) ≤ 4611686018427387904) :
    Calls Try.prog 24 #[.slice A n c, .int .i64 k0] w fun e w' => e = .returned (.int .i64 (k0 + n)) ∧ w = w' := by
  have HA := Lib.hid hA
  clear hA
  have hn0 : n ≤ 4611686018427387904 := by omega
  go_enter Try.func24, Try.ntmps24
  go_wp2
  go_loop [1, 5] (fun q i => ∃ k : Nat, k ≤ n ∧ i = .int .i64 k ∧ q = .int .i64 (k0 + k)) (fun _ i => n - (intOf i).toNat)
  case atStart => exact ⟨0, Nat.zero_le _, rfl, by simp⟩
  case round =>
    obtain ⟨k, hk, rfl, rfl⟩ := hrel
    by_cases hlt : k < n
    · obtain ⟨b, off, rfl, hb', hc⟩ := HA.out k hlt
      have hne : (k0 + (k : Int) != k0 + (k : Int)) = false := by simp
      go_wp2
      go_round
      case rel => exact ⟨k + 1, by omega, by go_num, by go_num⟩
      case measure => simp [intOf]; omega
    · obtain rfl : k = n := by omega
      go_wp2
      go_ret
      exact ⟨rfl, rfl⟩

/-- The rows hold k0, k0 + 1, .. through all of them; their lengths are those of xss. -/
def Marked (k0 : Int) (i : Nat) (xss yss : List (List Int)) : Prop :=
  yss.length = xss.length ∧ (∀ j, j < xss.length → (row yss j).length = (row xss j).length) ∧ ∀ j, j < i → row yss j = upFrom (k0 + (tot (xss.take j) : Nat)) (row xss j).length

/-- Of what was there only the rows' blocks may have turned. -/
structure Rowed (R : Spine) (n : Nat) (w w' : World) : Prop where
  os : w'.os = w.os
  tape : w'.tape = w.tape
  output : w'.output = w.output
  size : w.heap.size ≤ w'.heap.size
  block : ∀ k, k < w.heap.size → (∀ j, j < n → blk (R j).1 ≠ some k) → w'.heap[k]? = w.heap[k]?
theorem Rowed.refl (R : Spine) (n : Nat) (w : World) : Rowed R n w w := ⟨rfl, rfl, rfl, Nat.le_refl _, fun _ _ _ => rfl⟩
theorem Rowed.grown {R : Spine} {n k : Nat} {w w1 w2 : World} (h : Rowed R n w w1) (hg : w1.grownBy w2 (blk (R k).1)) (hk : k < n) : Rowed R n w w2 :=
  ⟨hg.os.trans h.os, hg.tape.trans h.tape, hg.output.trans h.output, Nat.le_trans h.size hg.size, fun i hi hn => (hg.block i (Nat.lt_of_lt_of_le hi h.size) (fun e => hn k hk e.symm)).trans (h.block i hi hn)⟩

set_option maxHeartbeats 800000 in
theorem markSS (w : World) (lo : Nat) (A : Option Addr) (c : Nat) (R : Spine) (xss : List (List Int)) (n : Nat) (k0 : Int) (hown : OwnM w lo A c R xss) (hn : xss.length = n) (h0 : 0 ≤ k0) (hb : k0 + (tot xss : Nat) ≤ 4611686018427387904) :
    Calls Try.prog 11 #[.slice A n c, .int .i64 k0] w fun e w' => e = .returned (.int .i64 (k0 + (tot xss : Nat))) ∧ (∃ yss, OwnM w' lo A c R yss ∧ Marked k0 n xss yss) ∧ Rowed R n w w' := by
  have HN := Lib.hid hn
  clear hn
  have hc0 : c ≤ maxLen := hown.rd.cap
  have hnc : n ≤ c := by have := hown.rd.le; rw [HN.out] at this; exact this
  unfold maxLen at hc0
  go_enter Try.func11, Try.ntmps11
  go_wp2
  go_loopw [1, 5] (fun q i wr => ∃ (k : Nat) (t : Int), k ≤ n ∧ i = .int .i64 k ∧ q = .int .i64 t ∧ Hid (t = k0 + (tot (xss.take k) : Nat)) ∧ (∃ yss, OwnM wr lo A c R yss ∧ Marked k0 k xss yss) ∧ Rowed R n w wr) (fun _ i _ => n - (intOf i).toNat)
  case atStart => exact ⟨0, k0, Nat.zero_le _, rfl, rfl, by simp [Hid, tot], ⟨xss, hown, rfl, fun _ _ => rfl, fun j hj => absurd hj (by omega)⟩, Rowed.refl _ _ _⟩
  case round =>
    obtain ⟨k, t, hk, rfl, rfl, ht, ⟨yss, ho, hM⟩, hB⟩ := hrel
    by_cases hlt : k < n
    · have hkx : k < xss.length := by rw [HN.out]; exact hlt
      have hky : k < yss.length := by rw [hM.1]; exact hkx
      obtain ⟨g, rfl, hlg, hgs, hc, hf⟩ := ho.at_ hky
      have hrl := hM.2.1 k hkx
      have hrt := row_le_tot hkx
      have ht0 : 0 ≤ t := by rw [ht.out]; omega
      have ht1 : t + ((row xss k).length : Int) ≤ 4611686018427387904 := by rw [ht.out]; omega
      have hcall := markS wr lo (R k).1 (R k).2 (row yss k) (row xss k).length t (ho.rows k hky) hrl ht0 ht1
      rw [hrl] at hc
      have HC := Lib.hid hcall
      have HR := Lib.hid hrl
      have HO := Lib.hid ho
      have HM := Lib.hid hM
      clear hcall hrl ho hM
      go_wp2_with (go_at_call 23; refine (HC.out).mono ?_; rintro e w1 ⟨rfl, ho1, hg1⟩)
      have ho2 : OwnM w1 lo (some ⟨g, 0, none⟩) c R (yss.set k (upFrom t (row xss k).length)) := HO.out.row_turned hky (by rw [length_upFrom, HR.out]) ho1 hg1
      have hB1 : Rowed R n w w1 := hB.grown hg1 hlt
      go_roundw
      case rel =>
        refine ⟨k + 1, t + ((row xss k).length : Int), by omega, by go_num, rfl, ?_, ⟨_, ho2, ?_⟩, hB1⟩
        · show _ = _
          rw [ht.out, tot_take_succ hkx]; omega
        · refine ⟨by rw [List.length_set]; exact HM.out.1, fun j hj => ?_, fun j hj => ?_⟩
          · by_cases e : j = k
            · subst e; simp [row, hky, length_upFrom]
            · rw [show row (yss.set k (upFrom t (row xss k).length)) j = row yss j from by simp [row, List.getElem?_set_ne (fun e' => e e'.symm)]]
              exact HM.out.2.1 j hj
          · by_cases e : j = k
            · subst e
              rw [show row (yss.set j (upFrom t (row xss j).length)) j = upFrom t (row xss j).length from by simp [row, hky], ht.out]
            · rw [show row (yss.set k (upFrom t (row xss k).length)) j = row yss j from by simp [row, List.getElem?_set_ne (fun e' => e e'.symm)]]
              exact HM.out.2.2 j (by omega)
      case measure => simp [intOf]; omega
    · obtain rfl : k = n := by omega
      have e : t = k0 + (tot xss : Nat) := by rw [ht.out, List.take_of_length_le (by rw [HN.out]; exact Nat.le_refl _)]
      have HE := Lib.hid e
      have HO := Lib.hid ho
      have HM := Lib.hid hM
      clear e ho hM hown
      go_wp2
      go_ret
      exact ⟨ret_i HE.out, ⟨yss, HO.out, HM.out⟩, hB⟩

set_option maxHeartbeats 800000 in
theorem heldSS (w : World) (A : Option Addr) (c : Nat) (R : Spine) (xss yss : List (List Int)) (n : Nat) (k0 : Int) (hrd : RdM w A c R yss) (hM : Marked k0 n xss yss) (hn : xss.length = n) (h0 : 0 ≤ k0) (hb : k0 + (tot xss : Nat) ≤ 4611686018427387904) :
    Calls Try.prog 12 #[.slice A n c, .int .i64 k0] w fun e w' => e = .returned (.int .i64 (k0 + (tot xss : Nat))) ∧ w = w' := by
  have HN := Lib.hid hn
  clear hn
  have hc0 : c ≤ maxLen := hrd.cap
  have hnc : n ≤ c := by have := hrd.le; rw [hM.1, HN.out] at this; exact this
  unfold maxLen at hc0
  have HR := Lib.hid hrd
  have HM := Lib.hid hM
  clear hrd hM
  go_enter Try.func12, Try.ntmps12
  go_wp2
  go_loop [1, 5] (fun q i => ∃ (k : Nat) (t : Int), k ≤ n ∧ i = .int .i64 k ∧ q = .int .i64 t ∧ Hid (t = k0 + (tot (xss.take k) : Nat))) (fun _ i => n - (intOf i).toNat)
  case atStart => exact ⟨0, k0, Nat.zero_le _, rfl, rfl, by simp [Hid, tot]⟩
  case round =>
    obtain ⟨k, t, hk, rfl, rfl, ht⟩ := hrel
    by_cases hlt : k < n
    · have hkx : k < xss.length := by rw [HN.out]; exact hlt
      have hky : k < yss.length := by rw [HM.out.1]; exact hkx
      obtain ⟨b, off, rfl, hbs, hc⟩ := HR.out.at_ k hky
      have hrl := HM.out.2.1 k hkx
      have hrt := row_le_tot hkx
      have ht0 : 0 ≤ t := by rw [ht.out]; omega
      have ht1 : t + ((row xss k).length : Int) ≤ 4611686018427387904 := by rw [ht.out]; omega
      have hat : At w (R k).1 (row xss k).length (fun j => t + (j : Int)) := by
        intro j hj
        obtain ⟨b', off', e1, e2, e3⟩ := (HR.out.rows k hky).at_ j (by rw [hrl]; exact hj)
        rw [HM.out.2.2 k hlt, nth_upFrom hj, ← ht.out] at e3
        exact ⟨b', off', e1, e2, e3⟩
      have hcall := heldS w (R k).1 (row xss k).length (R k).2 t hat ht0 ht1
      rw [hrl] at hc
      have ht2 : 0 ≤ t + ((row xss k).length : Int) := by omega
      have HC := Lib.hid hcall
      clear hcall hrl hat
      go_wp2_with (go_at_call 24; refine (HC.out).mono ?_; rintro e w1 ⟨rfl, rfl⟩)
      go_round
      case rel =>
        refine ⟨k + 1, t + ((row xss k).length : Int), by omega, by go_num, rfl, ?_⟩
        show _ = _
        rw [ht.out, tot_take_succ hkx]; omega
      case measure => simp [intOf]; omega
    · obtain rfl : k = n := by omega
      have e : t = k0 + (tot xss : Nat) := by rw [ht.out, List.take_of_length_le (by rw [HN.out]; exact Nat.le_refl _)]
      have HE := Lib.hid e
      clear e
      go_wp2
      go_ret
      exact ⟨ret_i HE.out, rfl⟩
end Go.Proofs.Ythgbfgdnljgicab
