/-
  Whether a design is valid: l10Block, l10Ok of the reference, slices.IsSortedFunc at slices.Compare, ValidDesign of the program. Conditions: those of each theorem.
-/
import Derived.Test.YthgbfgdnljgicabCmp
import Derived.Test.YthgbfgdnljgicabDsg
namespace Go.Proofs.Ythgbfgdnljgicab
open Go.RowKit
set_option linter.unusedVariables false
set_option linter.unusedSimpArgs false

def DsgOk (p : Int) (xss : List (List Int)) : Prop :=
  (1 ≤ p ∧ p ≤ 32) ∧ xss.length ≤ 128 ∧ ∀ k, k < xss.length → blockB (row xss k) p = true ∧ (0 < k → cmpL (row xss (k - 1)) (row xss k) ≤ 0)
instance (p : Int) (xss : List (List Int)) : Decidable (DsgOk p xss) := by unfold DsgOk; infer_instance
def dsgB (p : Int) (xss : List (List Int)) : Bool := decide (DsgOk p xss)
theorem dsgB_true {p : Int} {xss : List (List Int)} : dsgB p xss = true ↔ DsgOk p xss := by simp [dsgB]

theorem setB_rise {xs : List Int} {p : Int} (h0 : 0 ≤ p) (h1 : p ≤ 32) : setB xs p = riseB 0 (p - 1) xs := by
  unfold setB riseB
  exact decide_eq_decide.2 ⟨fun h => h.1, fun h => ⟨h, h0, h1⟩⟩

theorem EndQ.postV {v : Value} {w : World} {e : Ending} {w' : World} (h : EndQ v w e w') : PostV w v e w' := by
  obtain ⟨he, m, rfl⟩ := h
  exact ⟨he, below_drewN (Below.refl _ _) m⟩

set_option maxHeartbeats 400000 in
theorem l10Block_c (w : World) (A : Option Addr) (n c : Nat) (xs : List Int) (p : Int) (hp0 : 0 ≤ p) (hp1 : p ≤ 32) (hr : RdI w A c xs) (hn : xs.length = n) :
    Calls Try.prog 27 #[.slice A n c, .int .i64 p] w (EndQ (.bool (blockB xs p)) w) := by
  have HV := Lib.hid (rises_c w A n c xs 0 (p - 1) hr hn)
  by_cases h0 : 0 < n
  · have h0' : (0 : Int) < (n : Int) := by omega
    rw [show blockB xs p = riseB 0 (p - 1) xs by rw [← setB_rise hp0 hp1]; simp [blockB, hn, h0]]
    clear hr hn
    go_enter Try.func27, Try.ntmps27
    go_wp2_with fail
    refine (HV.out).mono ?_
    rintro e w' ⟨rfl, m, rfl⟩
    go_wp2
    go_ret
    exact ⟨rfl, m, rfl⟩
  · obtain rfl : n = 0 := by omega
    rw [show blockB xs p = false by simp [blockB, hn]]
    clear hr hn h0
    go_enter Try.func27, Try.ntmps27
    go_wp2
    go_ret
    exact ⟨rfl, 0, rfl⟩

/-- The box of a design. -/
structure BoxD (w : World) (B : Nat) (p : Int) (A : Option Addr) (n c : Nat) : Prop where
  c0 : w.cell? ⟨B, 0, none⟩ = some (.int .i64 p)
  c1 : w.cell? ⟨B, 1, none⟩ = some (.slice A n c)
theorem BoxD.made (w : World) (p : Int) (A : Option Addr) (n c : Nat) (T : TypeId) : BoxD (w.alloc (.cells #[.int .i64 p, .slice A n c] T)) w.heap.size p A n c := ⟨by simp [go_sem], by simp [go_sem]⟩
theorem BoxD.lt {w : World} {B : Nat} {p : Int} {A : Option Addr} {n c : Nat} (h : BoxD w B p A n c) : B < w.heap.size := cell_size h.c0
theorem BoxD.below {w w' : World} {B : Nat} {p : Int} {A : Option Addr} {n c : Nat} (h : BoxD w B p A n c) (hb : Below w.heap.size w w') : BoxD w' B p A n c :=
  ⟨(hb.cell (p := ⟨B, 0, none⟩) h.lt).trans h.c0, (hb.cell (p := ⟨B, 1, none⟩) h.lt).trans h.c1⟩
theorem BoxD.drewN {w : World} {B : Nat} {p : Int} {A : Option Addr} {n c : Nat} (h : BoxD w B p A n c) (m : Nat) : BoxD (w.drewN m) B p A n c := ⟨h.c0, h.c1⟩

set_option maxHeartbeats 2000000 in
theorem l10Ok_c (w : World) (B : Nat) (A : Option Addr) (n c : Nat) (R : Spine) (xss : List (List Int)) (p : Int) (hx : BoxD w B p A n c) (hr : RdM w A c R xss) (hn : xss.length = n) :
    Calls Try.prog 14 #[.pointer (some ⟨B, 0, none⟩)] w (EndQ (.bool (dsgB p xss)) w) := by
  have hm : n ≤ 9223372036854775807 := by have h1 := hr.le; have h2 := hr.cap; unfold maxLen at h2; omega
  have hc0 := hx.c0
  have hc1 := hx.c1
  have HR := Lib.hid hr
  have HN := Lib.hid hn
  obtain ⟨T, hT⟩ : ∃ T, T = dsgB p xss := ⟨_, rfl⟩
  rw [← hT]
  have HT := Lib.hid hT
  clear hr hn hx hT
  have hw := in_c p 1 32
  by_cases hp : 1 ≤ p ∧ p ≤ 32
  · rw [inB_true.2 hp] at hw
    have HW := Lib.hid hw
    clear hw
    by_cases hz : n ≤ 128
    · have hz' : (n : Int) ≤ 128 := by omega
      go_enter Try.func14, Try.ntmps14
      go_wp2_with fail
      refine (HW.out _).mono ?_
      rintro e w' ⟨rfl, rfl⟩
      go_wp2
      go_loopw [3] (fun i wr => ∃ k : Nat, k ≤ n ∧ i = .int .i64 k ∧ Hid (∀ j, j < k → blockB (row xss j) p = true ∧ (0 < j → cmpL (row xss (j - 1)) (row xss j) ≤ 0)) ∧ Qt w wr) (fun i _ => n - (intOf i).toNat)
      case atStart => exact ⟨0, Nat.zero_le _, rfl, fun j hj => absurd hj (by omega), Qt.refl w⟩
      case round =>
        obtain ⟨k, hk, rfl, hP, ⟨m, rfl⟩⟩ := hrel
        by_cases hlt : k < n
        · have hkx : k < xss.length := by rw [HN.out]; exact hlt
          obtain ⟨b, off, rfl, hb, hc⟩ := HR.out.at_ k hkx
          have hcall := fun q => l10Block_c (w.drewN q) (R k).1 (row xss k).length (R k).2 (row xss k) p (by omega) (by omega) ((HR.out.rows k hkx).drewN q) rfl
          have hi0 : (0 : Int) ≤ (k : Int) := by omega
          have hi1 : (k : Int) < (n : Int) := by omega
          rcases hbl : blockB (row xss k) p with _ | _
          · rw [hbl] at hcall
            have HC := Lib.hid hcall
            have HF := Lib.hid (show T = false by
              rw [HT.out]
              exact decide_eq_false (fun h => by have := (h.2.2 k hkx).1; rw [hbl] at this; cases this))
            clear hcall hbl
            go_wp2
            go_quiet ((go_at_call 27; exact quiet_endN (HC.out _)))
            go_wp2
            go_ret
            exact ⟨ret_b HF.out.symm, qt2 _ _ _⟩
          · rw [hbl] at hcall
            have HC := Lib.hid hcall
            have HBL := Lib.hid hbl
            clear hcall hbl
            by_cases h0 : k = 0
            · have HP := Lib.hid (show ∀ j, j < k + 1 → blockB (row xss j) p = true ∧ (0 < j → cmpL (row xss (j - 1)) (row xss j) ≤ 0) from fun j hj => by
                obtain rfl : j = k := by omega
                exact ⟨HBL.out, fun h => by omega⟩)
              subst h0
              simp only [Nat.add_zero] at hc
              go_wp2
              go_quiet ((go_at_call 27; exact quiet_endN (HC.out _)))
              go_wp2
              go_roundw
              case rel => exact ⟨1, by omega, rfl, HP, ⟨_, rfl⟩⟩
              case measure => simp [intOf]; omega
            · obtain ⟨b', off', e, _, hc2⟩ := HR.out.at_ (k - 1) (by omega)
              injection e with e
              injection e with e1 e2
              subst e1 e2
              have hcmp := fun q => CompareLists_c (w.drewN q) (R (k - 1)).1 (R k).1 (row xss (k - 1)).length (row xss k).length (R (k - 1)).2 (R k).2 (row xss (k - 1)) (row xss k) ((HR.out.rows (k - 1) (by omega)).drewN q) rfl ((HR.out.rows k hkx).drewN q) rfl
              have hbd := cmpL_bd (row xss (k - 1)) (row xss k)
              have hk0 : decide (0 < (k : Int)) = true := by simp; omega
              have hk0' : (0 : Int) < (k : Int) := by omega
              have hk1 : 0 < k := by omega
              have hk2 : decide (0 < k) = true := decide_eq_true hk1
              have hsub : IntKind.i64.wrap ((k : Int) - 1) = ((k - 1 : Nat) : Int) := by rw [show (k : Int) - 1 = ((k - 1 : Nat) : Int) by omega]; exact IntWalk.i64_in _ (by omega)
              have hs0 : (0 : Int) ≤ ((k - 1 : Nat) : Int) := by omega
              have hs1 : ((k - 1 : Nat) : Int) < (n : Int) := by omega
              obtain ⟨q, hq⟩ : ∃ q, q = cmpL (row xss (k - 1)) (row xss k) := ⟨_, rfl⟩
              rw [← hq] at hcmp hbd
              have HQ := Lib.hid hq
              have HCM := Lib.hid hcmp
              clear hq hcmp
              generalize hj : k - 1 = j at hsub hs0 hs1 hc2 HCM
              have HJ := Lib.hid hj
              by_cases h2 : 0 < q
              · have h2' : decide (0 < q) = true := by simp; omega
                have HF := Lib.hid (show T = false by
                  rw [HT.out]
                  exact decide_eq_false (fun h => by have := (h.2.2 k hkx).2 (by omega); rw [← HQ.out] at this; omega))
                clear h0 hj
                go_wp2
                go_quiet ((first | (go_at_call 27; exact quiet_endN (HC.out _)) | (go_at_call 28; exact quiet_endN (HCM.out _))))
                clear hsub
                go_wp2
                go_ret
                exact ⟨ret_b HF.out.symm, qt2 _ _ _⟩
              · have h2' : decide (0 < q) = false := by simp; omega
                have HP := Lib.hid (show ∀ j, j < k + 1 → blockB (row xss j) p = true ∧ (0 < j → cmpL (row xss (j - 1)) (row xss j) ≤ 0) from fun j hj => by
                  by_cases e : j = k
                  · subst e; exact ⟨HBL.out, fun _ => by rw [← HQ.out]; omega⟩
                  · exact hP.out j (by omega))
                clear h0 hj
                go_wp2
                go_quiet ((first | (go_at_call 27; exact quiet_endN (HC.out _)) | (go_at_call 28; exact quiet_endN (HCM.out _))))
                clear hsub
                go_wp2
                go_roundw
                case rel => exact ⟨k + 1, by omega, by go_num, HP, ⟨_, rfl⟩⟩
                case measure => simp [intOf]; omega
        · obtain rfl : k = n := by omega
          have HF := Lib.hid (show T = true by
            rw [HT.out]
            exact decide_eq_true ⟨hp, by rw [HN.out]; exact hz, by rw [HN.out]; exact hP.out⟩)
          go_wp2
          go_ret
          exact ⟨ret_b HF.out.symm, m, rfl⟩
    · have HF := Lib.hid (show T = false by
        rw [HT.out]
        exact decide_eq_false (fun h => hz (by rw [← HN.out]; exact h.2.1)))
      have hz' : (128 : Int) < (n : Int) := by omega
      clear hz
      go_enter Try.func14, Try.ntmps14
      go_wp2_with fail
      refine (HW.out _).mono ?_
      rintro e w' ⟨rfl, rfl⟩
      go_wp2
      go_ret
      exact ⟨ret_b HF.out.symm, 0, rfl⟩
  · rw [inB_false.2 hp] at hw
    have HW := Lib.hid hw
    have HF := Lib.hid (show T = false by
      rw [HT.out]
      exact decide_eq_false (fun h => hp h.1))
    clear hw hp
    go_enter Try.func14, Try.ntmps14
    go_wp2_with fail
    refine (HW.out _).mono ?_
    rintro e w' ⟨rfl, rfl⟩
    go_wp2
    go_ret
    exact ⟨ret_b HF.out.symm, 0, rfl⟩

/-! ### The program's -/

def SortedR (xss : List (List Int)) : Prop := ∀ k, k < xss.length → 0 < k → cmpL (row xss (k - 1)) (row xss k) ≤ 0
instance (xss : List (List Int)) : Decidable (SortedR xss) := by unfold SortedR; infer_instance
def sortedB (xss : List (List Int)) : Bool := decide (SortedR xss)

set_option maxHeartbeats 1000000 in
theorem isSorted_c (w : World) (A : Option Addr) (n c : Nat) (R : Spine) (xss : List (List Int)) (hr : RdM w A c R xss) (hn : xss.length = n) :
    Calls Try.prog 36 #[.slice A n c, .func (.func 37) #[] #[]] w (EndQ (.bool (sortedB xss)) w) := by
  have hm : n ≤ 9223372036854775807 := by have h1 := hr.le; have h2 := hr.cap; unfold maxLen at h2; omega
  have HR := Lib.hid hr
  have HN := Lib.hid hn
  obtain ⟨T, hT⟩ : ∃ T, T = sortedB xss := ⟨_, rfl⟩
  rw [← hT]
  have HT := Lib.hid hT
  clear hr hn hT
  by_cases hz : n = 0
  · subst hz
    have HF := Lib.hid (show T = true by
      rw [HT.out]
      exact decide_eq_true (fun k hk => by rw [HN.out] at hk; omega))
    go_enter Try.func36, Try.ntmps36
    go_wp2
    go_loop [5] (fun i => i = .int .i64 (-1)) (fun _ => 0)
    case atStart => first | rfl | simp
    case round =>
      obtain rfl := hrel
      go_wp2
      go_ret
      exact ⟨ret_b HF.out.symm, 0, rfl⟩
  obtain ⟨l, hl⟩ : ∃ l, n = l + 1 := ⟨n - 1, by omega⟩
  have hsub0 : (n : Int) - 1 = (l : Int) := by omega
  have HL := Lib.hid hl
  have HS0 := Lib.hid hsub0
  clear hl hz hsub0
  have hnn : (1 : Int) ≤ (n : Int) := by have := HL.out; omega
  go_enter Try.func36, Try.ntmps36
  go_wp2
  go_loopw [5] (fun i wr => ∃ k : Nat, k < n ∧ i = .int .i64 k ∧ Hid (∀ j, k < j → j < n → cmpL (row xss (j - 1)) (row xss j) ≤ 0) ∧ Qt w wr) (fun i _ => (intOf i).toNat)
  case atStart => exact ⟨l, by have := HL.out; omega, by rw [HS0.out], fun j hj hj2 => by have := HL.out; omega, Qt.refl w⟩
  case round =>
    obtain ⟨k, hk, rfl, hP, ⟨m, rfl⟩⟩ := hrel
    by_cases h0 : k = 0
    · have HF := Lib.hid (show T = true by
        rw [HT.out]
        exact decide_eq_true (fun j hj hj0 => hP.out j (by omega) (by rw [← HN.out]; exact hj)))
      subst h0
      go_wp2
      go_ret
      exact ⟨ret_b HF.out.symm, m, rfl⟩
    · have hkx : k < xss.length := by rw [HN.out]; exact hk
      obtain ⟨b, off, rfl, hb, hc⟩ := HR.out.at_ k hkx
      obtain ⟨b', off', e, _, hc2⟩ := HR.out.at_ (k - 1) (by omega)
      injection e with e
      injection e with e1 e2
      subst e1 e2
      have hcmp := fun q => Compare_c (w.drewN q) (R k).1 (R (k - 1)).1 (row xss k).length (row xss (k - 1)).length (R k).2 (R (k - 1)).2 (row xss k) (row xss (k - 1)) ((HR.out.rows k hkx).drewN q) rfl ((HR.out.rows (k - 1) (by omega)).drewN q) rfl
      have hbd := cmpL_bd (row xss k) (row xss (k - 1))
      have hi0 : (0 : Int) ≤ (k : Int) := by omega
      have hi1 : (k : Int) < (n : Int) := by omega
      have hk0' : (0 : Int) < (k : Int) := by omega
      have hsub : IntKind.i64.wrap ((k : Int) - 1) = ((k - 1 : Nat) : Int) := by rw [show (k : Int) - 1 = ((k - 1 : Nat) : Int) by omega]; exact IntWalk.i64_in _ (by omega)
      have hs0 : (0 : Int) ≤ ((k - 1 : Nat) : Int) := by omega
      have hs1 : ((k - 1 : Nat) : Int) < (n : Int) := by omega
      obtain ⟨q, hq⟩ : ∃ q, q = cmpL (row xss k) (row xss (k - 1)) := ⟨_, rfl⟩
      rw [← hq] at hcmp hbd
      have HQ := Lib.hid (hq.trans (cmpL_neg _ _))
      have HCM := Lib.hid hcmp
      clear hq hcmp
      generalize hj : k - 1 = j at hsub hs0 hs1 hc2 HCM
      have HJ := Lib.hid hj
      by_cases h2 : q < 0
      · have h2' : decide (q < 0) = true := by simp; omega
        have HF := Lib.hid (show T = false by
          rw [HT.out]
          exact decide_eq_false (fun h => by have := h k hkx (by omega); have := HQ.out; omega))
        clear h0 hj
        go_wp2
        go_quiet ((go_at_call 37; exact quiet_drN (HCM.out _)))
        clear hsub
        go_wp2
        go_ret
        exact ⟨ret_b HF.out.symm, qt2 _ _ _⟩
      · have h2' : decide (q < 0) = false := by simp; omega
        have HP := Lib.hid (show ∀ i, j < i → i < n → cmpL (row xss (i - 1)) (row xss i) ≤ 0 from fun i hi hi2 => by
          by_cases e : i = k
          · subst e; have := HQ.out; omega
          · exact hP.out i (by omega) hi2)
        clear h0 hj
        go_wp2
        go_quiet ((go_at_call 37; exact quiet_drN (HCM.out _)))
        clear hsub
        go_wp2
        go_roundw
        case rel => exact ⟨j, by omega, by have := HJ.out; go_num, HP, ⟨_, rfl⟩⟩
        case measure => have := HJ.out; simp [intOf]; omega

set_option maxHeartbeats 1000000 in
theorem ValidDesign_c (w : World) (p : Int) (A : Option Addr) (n c : Nat) (R : Spine) (xss : List (List Int)) (hr : RdM w A c R xss) (hn : xss.length = n) :
    Calls Try.prog 18 #[.agg #[.int .i64 p, .slice A n c]] w (PostV w (.bool (dsgB p xss))) := by
  have hm : n ≤ 9223372036854775807 := by have h1 := hr.le; have h2 := hr.cap; unfold maxLen at h2; omega
  obtain ⟨T, hT⟩ : ∃ T, T = dsgB p xss := ⟨_, rfl⟩
  rw [← hT]
  have HT := Lib.hid hT
  have HN := Lib.hid hn
  obtain ⟨W, hW⟩ : ∃ W, W = w.alloc (.cells #[.int .i64 p, .slice A n c] 28) := ⟨_, rfl⟩
  have hB0 : Below w.heap.size w W := by rw [hW]; exact below_boxed _ _
  have hx0 : BoxD W w.heap.size p A n c := by rw [hW]; exact BoxD.made _ _ _ _ _ _
  have hA := areBlocks_c W A n c R xss p (hr.below hB0) hn
  have hS := fun (w1 : World) (h : Below w.heap.size w w1) => isSorted_c w1 A n c R xss (hr.below h) hn
  have hz := hB0.size
  rcases hb : blocksB xss p with _ | _
  · rw [hb] at hA
    have HA := Lib.hid hA
    have HF := Lib.hid (show T = false by
      rw [HT.out]
      exact decide_eq_false (fun h => by
        have : blocksB xss p = true := decide_eq_true ⟨h.1, fun k hk => (h.2.2 k hk).1⟩
        rw [hb] at this; cases this))
    rw [hW] at HA hB0 hz
    clear hA hS hb hr hn hT hx0 hW
    go_enter Try.func18, Try.ntmps18
    go_wp2_with fail
    refine (HA.out).mono ?_
    rintro e w' ⟨rfl, hb⟩
    have hB := hB0.trans (hb.mono hz)
    go_wp2
    go_ret
    exact ⟨ret_b HF.out.symm, hB⟩
  · rw [hb] at hA
    have HA := Lib.hid hA
    have HBl := Lib.hid (of_decide_eq_true (p := BlocksOk xss p) hb)
    have HX := Lib.hid hx0
    clear hA hb hx0
    by_cases h128 : n ≤ 128
    · have h128' : (n : Int) ≤ 128 := by omega
      have HS := Lib.hid hS
      have HF := Lib.hid (show sortedB xss = T by
        rw [HT.out]
        exact decide_eq_decide.2 ⟨fun h => ⟨HBl.out.1, by rw [HN.out]; exact h128, fun k hk => ⟨HBl.out.2 k hk, h k hk⟩⟩, fun h k hk => (h.2.2 k hk).2⟩)
      clear hS hr hn hT
      rw [hW] at HA hB0 hz HX
      clear hW
      generalize sortedB xss = q at *
      go_enter Try.func18, Try.ntmps18
      go_wp2_with fail
      refine (HA.out).mono ?_
      rintro e w1 ⟨rfl, hb⟩
      have hB := hB0.trans (hb.mono hz)
      have hc1 := (HX.out.below hb).c1
      go_wp2_with fail
      refine (HS.out w1 hB).mono ?_
      rintro e w2 ⟨rfl, m, rfl⟩
      cases q
      all_goals go_wp2
      all_goals go_ret
      all_goals exact ⟨ret_b HF.out, below_drewN hB m⟩
    · have HF := Lib.hid (show T = false by
        rw [HT.out]
        exact decide_eq_false (fun h => h128 (by rw [← HN.out]; exact h.2.1)))
      have h128' : (128 : Int) < (n : Int) := by omega
      clear hS hr hn hT h128
      rw [hW] at HA hB0 hz HX
      clear hW
      go_enter Try.func18, Try.ntmps18
      go_wp2_with fail
      refine (HA.out).mono ?_
      rintro e w1 ⟨rfl, hb⟩
      have hB := hB0.trans (hb.mono hz)
      have hc1 := (HX.out.below hb).c1
      go_wp2
      go_ret
      exact ⟨ret_b HF.out.symm, hB⟩
end Go.Proofs.Ythgbfgdnljgicab
