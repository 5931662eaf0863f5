/-
  slices.Concat of two, and SumDesigns of both sides. Conditions: those of each theorem.
-/
import Derived.Test.YtdneldecedbepaaSumA
import Derived.Test.YtdneldecedbepaaShelfG
namespace Go.Proofs.Ytdneldecedbepaa
open Go.RowKit
set_option linter.unusedVariables false
set_option linter.unusedSimpArgs false

theorem grow0_c (w : World) (k : Nat) (hk : k ≤ 4000) :
    Calls Try.prog 95 #[.slice none 0 0, .int .i64 (k : Int)] w fun e w' => (∃ A c, e = .returned (.slice A 0 c) ∧ w'.ownsRow w.heap.size 37 1 (.slice A 0 c) 0 []) ∧ Below w.heap.size w w' := by
  rcases Nat.eq_zero_or_pos k with h0 | h0
  · subst h0
    refine (show Calls Try.prog 95 #[.slice none 0 0, .int .i64 ((0 : Nat) : Int)] w _ from Any8.slices_Grow_room growM none 0 0 0 w (by omega) (by omega) (by omega) (by omega)).mono fun e w' ⟨he, hw⟩ => ?_
    subst hw
    exact ⟨⟨none, 0, he, by simp, .inl ⟨rfl, rfl⟩⟩, Below.refl _ _⟩
  · obtain ⟨i, hi, hz, hz1, hz2⟩ := info_parts infoS
    refine (show Calls Try.prog 95 #[.slice none 0 0, .int .i64 (k : Int)] w _ from Any8.slices_Grow_grow growM i _ hi hz (by omega) none 0 0 k [] w (by omega) (by omega) (by rw [hz2]; omega) (by omega) (by simp) (fun _ => rfl) (fun a e => by cases e)).mono fun e w' ⟨he, hw⟩ => ?_
    have hG := grownCap_ge w (0 + k) 0 (growM_ren.t 25)
    have hG2 := grownCap_le_maxLen w (0 + k) 0 (growM_ren.t 25) (by unfold maxLen; omega)
    refine ⟨⟨_, _, he, by simp, .inr ⟨w.heap.size, _, _, rfl, Nat.le_refl _, by rw [hw]; exact heap_alloc_new _ _, Nat.zero_le _, hG2, ?_, by simp⟩⟩, by rw [hw]; exact (Below.refl w.heap.size w).drew.alloc (Nat.le_refl _) _⟩
    have h1 : (Builtin.zeroCells (Value.slice none 0 0).cells (0 + k - 0)).size = k := by simp [Builtin.zeroCells, Value.cells]
    have h2 : ∀ q, (Builtin.zeroCells (Value.slice none 0 0).cells q).size = q := fun q => by simp [Builtin.zeroCells, Value.cells]
    simp only [Array.size_append, h2]
    rw [Nat.zero_add] at hG ⊢
    simp
    omega

def cnN (n m : Nat) (k : Nat) : Nat := if k = 0 then n else m
def cnS (n m : Nat) (k : Nat) : Nat := if k = 0 then 0 else if k = 1 then n else n + m

set_option maxRecDepth 100000 in
set_option maxHeartbeats 4000000 in
theorem Concat_c (w : World) (G : Nat) (A B : Option Addr) (n m c d : Nat) (R S : Spine) (xss yss : List (List Int)) (h0 : w.cell? ⟨G, 0, none⟩ = some (.slice A n c)) (h1 : w.cell? ⟨G, 1, none⟩ = some (.slice B m d))
    (hr : RdM w A c R xss) (hn : xss.length = n) (hs : RdM w B d S yss) (hm : yss.length = m) (hz : n ≤ 1000 ∧ m ≤ 1000) :
    Calls Try.prog 63 #[.slice (some ⟨G, 0, none⟩) 2 2] w fun e w' => (∃ A' c', e = .returned (.slice A' (n + m) c') ∧ RdM w' A' c' (joinS R S n) (xss ++ yss)) ∧ Below w.heap.size w w' := by
  have hG : G < w.heap.size := cell_size h0
  obtain ⟨ad, had⟩ : ∃ ad : Nat → Option Addr, ad = fun k => if k = 0 then A else B := ⟨_, rfl⟩
  obtain ⟨cd, hcd⟩ : ∃ cd : Nat → Nat, cd = fun k => if k = 0 then c else d := ⟨_, rfl⟩
  obtain ⟨sp, hsp⟩ : ∃ sp : Nat → Spine, sp = fun k => if k = 0 then R else S := ⟨_, rfl⟩
  obtain ⟨rw_, hrw⟩ : ∃ rw_ : Nat → List (List Int), rw_ = fun k => if k = 0 then xss else yss := ⟨_, rfl⟩
  obtain ⟨vl, hvl⟩ : ∃ vl : Nat → List Value, vl = fun k => if k = 0 then [] else if k = 1 then valsM R xss else valsM R xss ++ valsM S yss := ⟨_, rfl⟩
  have HCe := Lib.hid (show ∀ k, k < 2 → w.cell? ⟨G, k, none⟩ = some (.slice (ad k) (cnN n m k) (cd k)) from fun k hk => by
    rw [had, hcd]
    rcases Nat.eq_zero_or_pos k with e | e
    · subst e; exact h0
    · obtain rfl : k = 1 := by omega
      exact h1)
  have HRd := Lib.hid (show ∀ k, k < 2 → RdM w (ad k) (cd k) (sp k) (rw_ k) ∧ (rw_ k).length = cnN n m k from fun k hk => by
    rw [had, hcd, hsp, hrw]
    rcases Nat.eq_zero_or_pos k with e | e
    · subst e; exact ⟨hr, hn⟩
    · obtain rfl : k = 1 := by omega
      exact ⟨hs, hm⟩)
  have HVl := Lib.hid (show ∀ k, k < 2 → vl (k + 1) = vl k ++ valsM (sp k) (rw_ k) from fun k hk => by
    rw [hvl, hsp, hrw]
    rcases Nat.eq_zero_or_pos k with e | e
    · subst e; rfl
    · obtain rfl : k = 1 := by omega
      rfl)
  have HSm := Lib.hid (show ∀ k, k < 2 → cnS n m (k + 1) = cnS n m k + cnN n m k from fun k hk => by
    unfold cnS cnN
    rcases Nat.eq_zero_or_pos k with e | e
    · subst e; simp
    · obtain rfl : k = 1 := by omega
      simp)
  have HNb := Lib.hid (show ∀ k, cnN n m k ≤ 1000 from fun k => by unfold cnN; split <;> omega)
  have HSb := Lib.hid (show ∀ k, cnS n m k ≤ 2000 from fun k => by unfold cnS; split; omega; split <;> omega)
  have HV0 := Lib.hid (show vl 0 = [] by rw [hvl]; rfl)
  have HV2 := Lib.hid (show vl 2 = valsM R xss ++ valsM S yss by rw [hvl]; rfl)
  have HRx := Lib.hid hr
  have HRy := Lib.hid hs
  have HNx := Lib.hid hn
  have HNy := Lib.hid hm
  have HS0 := Lib.hid (show cnS n m 0 = 0 from rfl)
  have HS2 := Lib.hid (show cnS n m 2 = n + m from rfl)
  clear had hcd hsp hrw hvl h0 h1 hr hn hs hm
  generalize hnN : cnN n m = nN at *
  generalize hnS : cnS n m = nS at *
  have HnN := Lib.hid hnN
  have HnS := Lib.hid hnS
  clear hnN hnS
  go_enter Try.func63, Try.ntmps63
  go_wp2
  go_loopw [3, 11] (fun s v wr => ∃ k t : Nat, k ≤ 2 ∧ v = .int .i64 k ∧ s = .int .i64 t ∧ Hid (nS k = t) ∧ Hid (wr = w)) (fun _ v _ => 2 - (intOf v).toNat)
  case atStart => exact ⟨0, 0, by omega, rfl, rfl, HS0, Lib.hid rfl⟩
  case round =>
    obtain ⟨k, t, hk, rfl, rfl, HT, HW⟩ := hrel
    have hwr := HW.out
    by_cases hlt : k < 2
    · have hcc := HCe.out k hlt
      rw [← hwr] at hcc
      have hb := HNb.out k
      have ht : t ≤ 2000 := by have := HSb.out k; rw [HT.out] at this; exact this
      have HSu := Lib.hid (HSm.out k hlt)
      have hk0 : (0 : Int) ≤ (k : Int) := by omega
      have hk2 : (k : Int) < 2 := by omega
      clear hwr
      generalize nN k = q at *
      have hneg : decide (((t : Int) + (q : Int)) < 0) = false := decide_eq_false (by omega)
      have hneg2 : ¬ ((t : Int) + (q : Int)) < 0 := by omega
      go_wp2
      go_roundw
      case rel => exact ⟨k + 1, t + q, by omega, by go_num, by go_num, Lib.hid (by rw [HSu.out, HT.out]), HW⟩
      case measure => simp [intOf]; omega
    · obtain rfl : k = 2 := by omega
      subst hwr
      have ht : t ≤ 2000 := by have := HSb.out 2; rw [HT.out] at this; exact this
      have HGr := Lib.hid (grow0_c wr t (by omega))
      go_wp2_with fail
      refine (HGr.out).mono ?_
      rintro e w2 ⟨⟨A2, c2, rfl, ho2⟩, hb2⟩
      have HO2 := Lib.hid (show w2.ownsRow wr.heap.size 37 1 (.slice A2 0 c2) 0 (vl 0) from by rw [HV0.out]; exact ho2)
      have HB2 := Lib.hid hb2
      clear ho2 hb2
      obtain ⟨wo, rfl⟩ : ∃ wo, wo = wr := ⟨_, rfl⟩
      go_wp2
      go_loopw [6, 27] (fun o v wr => ∃ (k t : Nat) (A' : Option Addr) (c' : Nat), k ≤ 2 ∧ v = .int .i64 k ∧ o = .slice A' t c' ∧ Hid (nS k = t) ∧ Hid (wr.ownsRow wo.heap.size 37 1 (.slice A' t c') t (vl k)) ∧ Hid (Below wo.heap.size wo wr)) (fun _ v _ => 2 - (intOf v).toNat)
      case atStart => exact ⟨0, 0, _, _, by omega, rfl, rfl, HS0, HO2, HB2⟩
      case round =>
        obtain ⟨k, t, A', c', hk, rfl, rfl, HT, HO, HB⟩ := hrel
        have hsz := HB.out.size
        by_cases hlt : k < 2
        · have hcc := (HB.out.cell (p := ⟨G, k, none⟩) hG).trans (HCe.out k hlt)
          have hb := HNb.out k
          have ht : t ≤ 2000 := by have := HSb.out k; rw [HT.out] at this; exact this
          have HSu := Lib.hid (HSm.out k hlt)
          obtain ⟨hrk, hlk⟩ := HRd.out k hlt
          have HRk := Lib.hid (hrk.below HB.out)
          have HLk := Lib.hid hlk
          have HVu := Lib.hid (HVl.out k hlt)
          have hk0 : (0 : Int) ≤ (k : Int) := by omega
          have hk2 : (k : Int) < 2 := by omega
          clear hrk hlk
          generalize nN k = q at *
          generalize ad k = adk at *
          generalize cd k = cdk at *
          go_wp2_with (at_builtin; refine wpA_append rfl _ _ rfl wo.heap.size A' c' t (vl k) adk q cdk (sp k) (rw_ k) rfl rfl HO.out HRk.out HLk.out (by omega) hsz ?_; intro A8 c8 w8 ho8 hg8 ha8)
          have HO8 := Lib.hid (show w8.ownsRow wo.heap.size 37 1 (.slice A8 (t + q) c8) (t + q) (vl (k + 1)) from by rw [HVu.out]; exact ho8)
          have HB8 := Lib.hid (HB.out.trans (below_blkV HO.out hg8 (Nat.le_refl _) hsz))
          clear ho8 hg8 ha8
          go_wp2
          go_roundw
          case rel => exact ⟨k + 1, t + q, A8, c8, by omega, by go_num, rfl, Lib.hid (by rw [HSu.out, HT.out]), HO8, HB8⟩
          case measure => simp [intOf]; omega
        · obtain rfl : k = 2 := by omega
          have HTe := Lib.hid (show t = n + m from HT.out.symm.trans HS2.out)
          have HRf := Lib.hid (show RdM wr A' c' (joinS R S n) (xss ++ yss) from by
            have h2 := HO.out
            rw [HV2.out, HTe.out, ← HNx.out, ← HNy.out] at h2
            rw [← HNx.out]
            exact RdM.joined h2 (fun k hk => ((HRx.out.below HB.out).rows k hk)) (fun k hk => ((HRy.out.below HB.out).rows k hk)))
          go_wp2
          go_ret
          exact ⟨⟨A', c', by rw [HTe.out]; rfl, HRf.out⟩, HB.out⟩
end Go.Proofs.Ytdneldecedbepaa
