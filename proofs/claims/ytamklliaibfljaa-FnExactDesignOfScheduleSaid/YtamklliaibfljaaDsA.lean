/-
  Rows of many slices in one, without copies; slices.Concat of many. Conditions: those of each theorem.
-/
import Derived.Test.YtamklliaibfljaaSumA
import Derived.Test.YtamklliaibfljaaShelfG
import Derived.Test.YtamklliaibfljaaDsP
namespace Go.Proofs.Ytamklliaibfljaa
open Go.RowKit
set_option linter.unusedVariables false
set_option linter.unusedSimpArgs false

theorem growD_c (w : World) (k : Nat) (hk : k ≤ 4000) :
    Calls Try.prog 63 #[.slice none 0 0, .int .i64 (k : Int)] w fun e w' => (∃ A c, e = .returned (.slice A 0 c) ∧ w'.ownsRow w.heap.size 45 1 (.slice A 0 c) 0 []) ∧ Below w.heap.size w w' := by
  rcases Nat.eq_zero_or_pos k with h0 | h0
  · subst h0
    refine (show Calls Try.prog 63 #[.slice none 0 0, .int .i64 ((0 : Nat) : Int)] w _ from Any8.slices_Grow_room growM none 0 0 0 w (by omega) (by omega) (by omega) (by omega)).mono fun e w' ⟨he, hw⟩ => ?_
    subst hw
    exact ⟨⟨none, 0, he, by simp, .inl ⟨rfl, rfl⟩⟩, Below.refl _ _⟩
  · obtain ⟨i, hi, hz, hz1, hz2⟩ := info_parts infoS
    refine (show Calls Try.prog 63 #[.slice none 0 0, .int .i64 (k : Int)] w _ from Any8.slices_Grow_grow growM i _ hi hz (by omega) none 0 0 k [] w (by omega) (by omega) (by rw [hz2]; omega) (by omega) (by simp) (fun _ => rfl) (fun a e => by cases e)).mono fun e w' ⟨he, hw⟩ => ?_
    have hG := grownCap_ge w (0 + k) 0 (growM_ren.t 25)
    have hG2 := grownCap_le_maxLen w (0 + k) 0 (growM_ren.t 25) (by unfold maxLen; omega)
    refine ⟨⟨_, _, he, by simp, .inr ⟨w.heap.size, _, _, rfl, Nat.le_refl _, by rw [hw]; exact heap_alloc_new _ _, Nat.zero_le _, hG2, ?_, by simp⟩⟩, by rw [hw]; exact (Below.refl w.heap.size w).drew.alloc (Nat.le_refl _) _⟩
    have h1 : (Builtin.zeroCells (Value.slice none 0 0).cells (0 + k - 0)).size = k := by simp [Builtin.zeroCells, Value.cells]
    have h2 : ∀ q, (Builtin.zeroCells (Value.slice none 0 0).cells q).size = q := fun q => by simp [Builtin.zeroCells, Value.cells]
    simp only [Array.size_append, h2]
    rw [Nat.zero_add] at hG ⊢
    simp
    omega

/-- Own cells of w that hold rows that were there in b. -/
def CatM (b w : World) (A : Option Addr) (c : Nat) (R : Spine) (xss : List (List Int)) : Prop :=
  w.ownsRow b.heap.size 45 1 (.slice A xss.length c) xss.length (valsM R xss) ∧ ∀ k, k < xss.length → RdI b (R k).1 (R k).2 (row xss k)
theorem row_app_lt {xss yss : List (List Int)} {k : Nat} (h : k < xss.length) : row (xss ++ yss) k = row xss k := by simp [row, List.getElem?_append_left h]
theorem row_app_ge {xss yss : List (List Int)} {k : Nat} : row (xss ++ yss) (xss.length + k) = row yss k := by simp [row, List.getElem?_append_right]
theorem joinS_lt {R S : Spine} {n k : Nat} (h : k < n) : joinS R S n k = R k := by unfold joinS; rw [if_pos h]
theorem joinS_ge {R S : Spine} {n k : Nat} : joinS R S n (n + k) = S k := by unfold joinS; rw [if_neg (by omega), show n + k - n = k by omega]
theorem valsM_join (R S : Spine) (xss yss : List (List Int)) : valsM (joinS R S xss.length) (xss ++ yss) = valsM R xss ++ valsM S yss := by
  unfold valsM
  rw [List.length_append, List.range_add, List.map_append, List.map_map]
  congr 1
  · refine List.map_congr_left fun k hk => ?_
    have hk := List.mem_range.1 hk
    rw [row_app_lt hk, joinS_lt hk]
  · refine List.map_congr_left fun k hk => ?_
    simp only [Function.comp_apply]
    rw [row_app_ge, joinS_ge]
theorem CatM.step {b w w' : World} {A A' : Option Addr} {c c' t q : Nat} {R S : Spine} {xss yss : List (List Int)} (h : CatM b w A c R xss) (hs : ∀ k, k < yss.length → RdI b (S k).1 (S k).2 (row yss k))
    (ht : xss.length = t) (hq : yss.length = q) (ho : w'.ownsRow b.heap.size 45 1 (.slice A' (t + q) c') (t + q) (valsM R xss ++ valsM S yss)) : CatM b w' A' c' (joinS R S xss.length) (xss ++ yss) := by
  subst ht hq
  refine ⟨by rw [List.length_append, valsM_join]; exact ho, fun k hk => ?_⟩
  rw [List.length_append] at hk
  by_cases e : k < xss.length
  · rw [joinS_lt e, row_app_lt e]; exact h.2 k e
  · obtain ⟨j, rfl⟩ : ∃ j, k = xss.length + j := ⟨k - xss.length, by omega⟩
    rw [row_app_ge, joinS_ge]
    exact hs j (by omega)
theorem CatM.rd {b w : World} {c : Nat} {A : Option Addr} {R : Spine} {xss : List (List Int)} (h : CatM b w A c R xss) (hb : Below b.heap.size b w) : RdM w A c (joinS R R xss.length) xss := by
  have := RdM.joined (w := w) (lo := b.heap.size) (c := c) (A := A) (R := R) (S := R) (xss := xss) (yss := []) (by simpa [valsM] using h.1) (fun k hk => (h.2 k hk).below hb) (fun k hk => absurd hk (by simp))
  rwa [List.append_nil] at this

set_option maxRecDepth 100000 in
set_option maxHeartbeats 4000000 in
theorem ConcatL_c (w : World) (A : Option Addr) (n c : Nat) (S : Spine3) (x : List (List (List Int))) (hr : RdL w A c S x) (hn : x.length = n) (hz : n ≤ 1048576) (hc : cntR x n ≤ 1000) :
    Calls Try.prog 31 #[.slice A n c] w fun e w' => (∃ A' c' R' m, e = .returned (.slice A' m c') ∧ m = (dsL x n).length ∧ RdM w' A' c' R' (dsL x n)) ∧ Below w.heap.size w w' := by
  have hle : ∀ k, k ≤ n → cntR x k ≤ 1000 := fun k hk => by
    have : ∀ j, cntR x k ≤ cntR x (k + j) := fun j => by
      induction j with
      | zero => exact Nat.le_refl _
      | succ j ih => rw [← Nat.add_assoc, cntR]; omega
    have h1 := this (n - k)
    rw [show k + (n - k) = n by omega] at h1
    omega
  have HLe := Lib.hid hle
  have HR := Lib.hid hr
  have HN := Lib.hid hn
  have HC0 := Lib.hid (show cntR x 0 = 0 from rfl)
  clear hr hn hc hle
  go_enter Try.func31, Try.ntmps31
  go_wp2
  go_loopw [3, 11] (fun s v wr => ∃ k t : Nat, k ≤ n ∧ v = .int .i64 k ∧ s = .int .i64 t ∧ Hid (cntR x k = t) ∧ Hid (wr = w)) (fun _ v _ => n - (intOf v).toNat)
  case atStart => exact ⟨0, 0, by omega, rfl, rfl, HC0, Lib.hid rfl⟩
  case round =>
    obtain ⟨k, t, hk, rfl, rfl, HT, HW⟩ := hrel
    have hwr := HW.out
    by_cases hlt : k < n
    · obtain ⟨b, off, e, hb, hcc⟩ := HR.out.at_ k (by rw [HN.out]; exact hlt)
      rw [← hwr] at hcc
      have ht : t ≤ 1000 := by rw [← HT.out]; exact HLe.out k hk
      have hsu : cntR x (k + 1) = t + (pln x k).length := by rw [cntR, HT.out]
      have hq1 : t + (pln x k).length ≤ 1000 := by rw [← hsu]; exact HLe.out (k + 1) hlt
      have HSu := Lib.hid hsu
      have hk0 : (0 : Int) ≤ (k : Int) := by omega
      have hk2 : (k : Int) < (n : Int) := by omega
      subst e
      clear hwr hsu
      generalize (pln x k).length = q at *
      have hneg : decide (((t : Int) + (q : Int)) < 0) = false := decide_eq_false (by omega)
      have hneg2 : ¬ ((t : Int) + (q : Int)) < 0 := by omega
      go_wp2
      go_roundw
      case rel => exact ⟨k + 1, t + q, by omega, by go_num, by go_num, HSu, HW⟩
      case measure => simp [intOf]; omega
    · obtain rfl : n = k := by omega
      subst hwr
      have ht : t ≤ 1000 := by rw [← HT.out]; exact HLe.out n hk
      have HGr := Lib.hid (growD_c wr t (by omega))
      go_wp2_with fail
      refine (HGr.out).mono ?_
      rintro e w2 ⟨⟨A2, c2, rfl, ho2⟩, hb2⟩
      have HO2 := Lib.hid (show CatM wr w2 A2 c2 (fun _ => (none, 0)) (dsL x 0) from by rw [dsL_zero]; exact ⟨ho2, fun k hk => absurd hk (by simp)⟩)
      have HB2 := Lib.hid hb2
      have HD0 := Lib.hid (show (dsL x 0).length = 0 from by rw [dsL_zero]; rfl)
      clear ho2 hb2
      obtain ⟨wo, rfl⟩ : ∃ wo, wo = wr := ⟨_, rfl⟩
      go_wp2
      go_loopw [6, 27] (fun o v wr => ∃ (k t : Nat) (A' : Option Addr) (c' : Nat) (R' : Spine), k ≤ n ∧ v = .int .i64 k ∧ o = .slice A' t c' ∧ t ≤ 1000 ∧ Hid ((dsL x k).length = t) ∧ Hid (CatM wo wr A' c' R' (dsL x k)) ∧ Hid (Below wo.heap.size wo wr)) (fun _ v _ => n - (intOf v).toNat)
      case atStart => exact ⟨0, 0, _, _, _, by omega, rfl, rfl, by omega, HD0, HO2, HB2⟩
      case round =>
        obtain ⟨k, t, A', c', R', hk, rfl, rfl, ht, HT, HO, HB⟩ := hrel
        have hsz := HB.out.size
        by_cases hlt : k < n
        · have hkx : k < x.length := by rw [HN.out]; exact hlt
          obtain ⟨b, off, e, hb, hcc0⟩ := HR.out.at_ k hkx
          have hcc := (HB.out.cell (p := ⟨b, off + k, none⟩) hb).trans hcc0
          have hsu : (dsL x (k + 1)).length = t + (pln x k).length := by rw [dsL_succ hkx, List.length_append, HT.out]
          have hq1 : t + (pln x k).length ≤ 1000 := by rw [← hsu, dsL_len (by omega)]; exact HLe.out (k + 1) hlt
          have HSu := Lib.hid hsu
          have HRk := Lib.hid ((HR.out.below HB.out).rows k hkx)
          have HLk := Lib.hid (show (pln x k).length = (pln x k).length from rfl)
          have HRw := Lib.hid (HR.out.rows k hkx)
          have HDs := Lib.hid (dsL_succ hkx)
          have HOv := Lib.hid (show wr.ownsRow wo.heap.size 45 1 (.slice A' t c') t (valsM R' (dsL x k)) from by have := HO.out.1; rwa [HT.out] at this)
          have hk0 : (0 : Int) ≤ (k : Int) := by omega
          have hk2 : (k : Int) < (n : Int) := by omega
          subst e
          clear hcc0 hsu
          generalize hpk : pln x k = pk at *
          go_wp2_with (at_builtin; refine wpA_append rfl _ _ rfl wo.heap.size A' c' t (valsM R' (dsL x k)) (S k).1 pk.length (S k).2.1 (S k).2.2 pk rfl rfl HOv.out HRk.out HLk.out (by omega) hsz ?_; intro A8 c8 w8 ho8 hg8 ha8)
          have hb8 := below_blkV HOv.out hg8 (Nat.le_refl _) hsz
          have hbR : Below wo.heap.size wo w8 := HB.out.trans hb8
          have HO8 := Lib.hid (show CatM wo w8 A8 c8 (joinS R' (S k).2.2 (dsL x k).length) (dsL x (k + 1)) from by
            rw [HDs.out]
            exact HO.out.step (fun j hj => HRw.out.rows j hj) HT.out HLk.out ho8)
          have HB8 := Lib.hid hbR
          have HS8 := Lib.hid (show (dsL x (k + 1)).length = t + pk.length from HSu.out)
          clear ho8 hg8 ha8 hb8 hbR
          go_wp2
          go_roundw
          case rel => exact ⟨k + 1, t + pk.length, A8, c8, _, by omega, by go_num, rfl, by omega, HS8, HO8, HB8⟩
          case measure => simp [intOf]; omega
        · obtain rfl : n = k := by omega
          have HRf := Lib.hid (HO.out.rd HB.out)
          go_wp2
          go_ret
          exact ⟨⟨A', c', _, t, rfl, HT.out.symm, HRf.out⟩, HB.out⟩
end Go.Proofs.Ytamklliaibfljaa
