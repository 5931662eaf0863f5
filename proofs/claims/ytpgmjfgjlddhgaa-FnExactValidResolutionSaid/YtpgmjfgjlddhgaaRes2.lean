/-
  ValidResolution: the walks of both sides. Conditions: those of each theorem.
-/
import Derived.Test.YtpgmjfgjlddhgaaRes
namespace Go.Proofs.Ytpgmjfgjlddhgaa
open Go.RowKit
set_option linter.unusedVariables false
set_option linter.unusedSimpArgs false

set_option maxRecDepth 100000 in
set_option maxHeartbeats 4000000 in
theorem implValidResolution_c (w : World) (p : Int) (hp : -9223372036854775808 ≤ p ∧ p ≤ 9223372036854775807) (A : Option Addr) (n c : Nat) (R : Spine) (xss : List (List Int)) (hr : RdM w A c R xss) (hn : xss.length = n) (hw : WfM xss) (hz : (n : Int) + (tot xss : Nat) ≤ 1048576)
    (A1 : Option Addr) (m c1 : Nat) (R1 : Spine) (cls : List (List Int)) (hr1 : RdM w A1 c1 R1 cls) (hm : cls.length = m) (hw1 : WfM cls) (hz1 : (m : Int) + (tot cls : Nat) ≤ 1048576) (hcap : NilCap R1 cls.length) :
    Calls Try.prog 52 #[.agg #[.int .i64 p, .slice A n c], .slice A1 m c1] w (PostV w (.bool (resB p xss cls))) := by
  have hB0 := below_boxed w (.cells #[.int .i64 p, .slice A n c] 28)
  have hX := BoxD.made w p A n c 28
  have hO := ValidDesign_c _ p A n c R xss (hr.below hB0) hn
  have HB0 := Lib.hid hB0
  have HX := Lib.hid hX
  clear hp hw hz hw1
  rcases hd : dsgB p xss with _ | _
  · rw [hd] at hO
    rw [show resB p xss cls = false by simp [resB, hd]]
    have HO := Lib.hid hO
    clear hO hd hX hB0 hr hn hr1 hm hz1 hcap
    go_enter Try.func52, Try.ntmps52
    go_wp2_with fail
    refine (HO.out).mono ?_
    rintro e w2 ⟨rfl, hb2⟩
    have HB2 := Lib.hid (HB0.out.trans (hb2.mono HB0.out.size))
    clear hb2
    go_wp2
    go_ret
    exact ⟨rfl, HB2.out⟩
  rw [hd] at hO
  have HO := Lib.hid hO
  have hD := dsgB_true.1 hd
  obtain ⟨P, rfl⟩ : ∃ P : Nat, p = (P : Int) := ⟨p.toNat, by have := hD.1.1; omega⟩
  obtain ⟨T, hT⟩ : ∃ T, T = decide (resOk P xss cls) := ⟨_, rfl⟩
  rw [show resB (P : Int) xss cls = T by rw [hT]; simp [resB, hd]]
  have HT := Lib.hid hT
  have HCl := Lib.hid (fun (W : World) (hb : Below w.heap.size w W) (k : Nat) (hk : k < cls.length) => isClass_c W P A n c R xss (hr.below hb) hn hD (R1 k).1 (row cls k).length (R1 k).2 (row cls k) ((hr1.below hb).rows k hk) rfl (by have := row_le_tot hk; omega))
  have HR1 := Lib.hid hr1
  have HM := Lib.hid hm
  have hm20 : m ≤ 1048576 := by omega
  have HCap := Lib.hid hcap
  have hn128 : n ≤ 128 := by have := hD.2.1; omega
  have HNx := Lib.hid hn
  have HTot := Lib.hid (show ∀ k, (flatTo cls k).length ≤ 1048576 from fun k => by rw [flatTo_len]; have := tot_take_le cls k; omega)
  have HRt := Lib.hid (show ∀ k, k < m → (row cls k).length ≤ 1048576 from fun k hk => by have := row_le_tot (show k < cls.length by omega); omega)
  clear hO hd hX hB0 hr hn hr1 hm hz1 hcap hD hT
  go_enter Try.func52, Try.ntmps52
  go_wp2_with fail
  refine (HO.out).mono ?_
  rintro e w2 ⟨rfl, hb2⟩
  have hz2 : w.heap.size + 1 ≤ w2.heap.size := by have := hb2.size; simpa using this
  have HX2 := Lib.hid (HX.out.below hb2)
  have HB2 := Lib.hid (HB0.out.trans (hb2.mono HB0.out.size))
  clear hb2
  go_wp2
  go_loopw [5, 13] (fun o i wr => ∃ (k q : Nat) (A' : Option Addr) (c' : Nat), k ≤ m ∧ i = .int .i64 k ∧ o = .slice A' q c' ∧ Hid ((flatTo cls k).length = q) ∧ Hid (∀ j, j < k → classB P xss (row cls j) = true) ∧ Hid (OwnI wr (w.heap.size + 1) A' c' (flatTo cls k)) ∧ Hid (Below (w.heap.size + 1) w2 wr)) (fun _ i _ => m - (intOf i).toNat)
  case atStart => exact ⟨0, 0, none, 0, Nat.zero_le _, rfl, rfl, Lib.hid (by rw [flatTo_zero]; rfl), Lib.hid (fun j hj => absurd hj (by omega)), Lib.hid (by rw [flatTo_zero]; exact OwnI.nil_ _ _), Lib.hid (Below.refl _ _)⟩
  case round =>
    obtain ⟨k, q, A', c', hk, rfl, rfl, HL, HOk, HO3, HB3⟩ := hrel
    have HBw := Lib.hid (HB2.out.trans (HB3.out.mono (by omega)))
    have hbx := HX2.out.step (lo := w.heap.size + 1) (by omega) HB3.out
    have hc0 := hbx.c0
    have hc1 := hbx.c1
    have hz3 : w.heap.size + 1 ≤ wr.heap.size := by have := HB3.out.size; omega
    by_cases hlt : k < m
    · have hkx : k < cls.length := by rw [HM.out]; exact hlt
      obtain ⟨b, off, e, hb, hc⟩ := HR1.out.at_ k hkx
      subst e
      have hcc := (HBw.out.cell (p := ⟨b, off + k, none⟩) hb).trans hc
      have hCk := HCl.out wr HBw.out k hkx
      rcases hcb : classB P xss (row cls k) with _ | _
      · rw [hcb] at hCk
        have HCk := Lib.hid hCk
        have HF := Lib.hid (show T = false by rw [HT.out]; exact decide_eq_false (fun h => by have := h.1 k hkx; rw [hcb] at this; cases this))
        clear hCk hcb hc hbx
        go_wp2_with fail
        refine (HCk.out).mono ?_
        rintro e w4 ⟨rfl, hb4⟩
        have HB4 := Lib.hid (HBw.out.trans (hb4.mono (by omega)))
        clear hb4
        go_wp2
        go_ret
        exact ⟨ret_b HF.out.symm, HB4.out⟩
      · rw [hcb] at hCk
        have HCk := Lib.hid hCk
        have HOk2 := Lib.hid (show ∀ j, j < k + 1 → classB P xss (row cls j) = true from fun j hj => by
          by_cases e : j = k
          · subst e; exact hcb
          · exact HOk.out j (by omega))
        have HRk := Lib.hid ((HR1.out.below HBw.out).rows k hkx)
        have HS := Lib.hid (flatTo_succ hkx)
        have hq1 : q ≤ 1048576 := by have := HTot.out k; rw [HL.out] at this; exact this
        have hq2 := HRt.out k hlt
        have HNc := Lib.hid (HCap.out k hkx)
        have HL2 := Lib.hid (show (flatTo cls (k + 1)).length = q + (row cls k).length by rw [HS.out, List.length_append, HL.out])
        clear hCk hcb hc hbx
        obtain ⟨yl, hyl⟩ : ∃ yl, yl = (row cls k).length := ⟨_, rfl⟩
        rw [← hyl] at hcc HCk hq2 HL2
        have HYl := Lib.hid hyl.symm
        clear hyl
        go_wp2_with fail
        refine (HCk.out).mono ?_
        rintro e w4 ⟨rfl, hb4⟩
        have HB4 := Lib.hid (HB3.out.trans (hb4.mono hz3))
        have HO4 := Lib.hid (HO3.out.below hb4)
        have HR4 := Lib.hid (HRk.out.below hb4)
        have hz4 := HB4.out.size
        clear hb4
        go_wp2_with (at_builtin
                     refine wpI_appendL rfl _ _ rfl (w.heap.size + 1) A' c' q (flatTo cls k) (R1 k).1 yl (R1 k).2 (row cls k) rfl rfl HL.out HYl.out HO4.out HR4.out HNc.out (by omega) (by omega) ?_
                     intro A5 c5 w5 ho5 hg5 ha5)
        have HB5 := Lib.hid (HB4.out.trans (below_blk HO4.out hg5 (Nat.le_refl _) (by omega)))
        have HO5 := Lib.hid (show OwnI w5 (w.heap.size + 1) A5 c5 (flatTo cls (k + 1)) by rw [HS.out]; exact ho5)
        clear ho5 hg5 ha5
        go_wp2
        go_roundw
        case rel => exact ⟨k + 1, q + yl, A5, c5, by omega, by go_num, rfl, HL2, HOk2, HO5, HB5⟩
        case measure => simp [intOf]; omega
    · obtain rfl : k = m := by omega
      have hq1 : q ≤ 1048576 := by have := HTot.out k; rw [HL.out] at this; exact this
      have HSo := Lib.hid (sort_c wr HO3.out HL.out hq1)
      have HLs := Lib.hid (show (sortL (flatTo cls k)).length = q by rw [sortL_len]; exact HL.out)
      have HEnd := Lib.hid (show T = decide (sortL (flatTo cls k) = idL n) by
        rw [HT.out]
        refine decide_eq_decide.2 ?_
        unfold resOk
        rw [HM.out, HNx.out]
        exact ⟨fun h => h.2, fun h => ⟨HOk.out, h⟩⟩)
      clear hbx
      go_wp2_with fail
      refine (HSo.out).mono ?_
      rintro e w4 ⟨rfl, ho4, hg4⟩
      have HB4 := Lib.hid (HB3.out.trans (below_blk HO3.out hg4 (Nat.le_refl _) (by omega)))
      have HO4 := Lib.hid ho4
      have hbx := HX2.out.step (lo := w.heap.size + 1) (by omega) HB4.out
      have hd0 := hbx.c0
      have hd1 := hbx.c1
      have hz4 : w.heap.size + 1 ≤ w4.heap.size := by have := HB4.out.size; omega
      clear ho4 hg4 hc0 hc1 hbx
      go_wp2_with fail
      refine (sizeS_c _ _ _ _).mono ?_
      rintro e w' ⟨rfl, rfl⟩
      go_wp2_with fail
      refine (identity_c _ n (by omega)).mono ?_
      rintro e w5 ⟨⟨A5, n5, c5, rfl, hn5, ho5⟩, hb5⟩
      have HEq := Lib.hid (equal_c w5 (HO4.out.below hb5).rd ho5.rd HLs.out hn5)
      rw [← HEnd.out] at HEq
      have HB5 := Lib.hid (HB2.out.trans ((HB4.out.trans (hb5.mono hz4)).mono (by omega)))
      clear hn5 ho5 hb5
      go_wp2_with fail
      refine (HEq.out).mono ?_
      rintro e w6 ⟨rfl, q6, rfl⟩
      go_wp2
      go_ret
      exact ⟨rfl, below_drewN HB5.out q6⟩

set_option maxRecDepth 100000 in
set_option maxHeartbeats 4000000 in
theorem specValidResolution_c (w : World) (p : Int) (hp : -9223372036854775808 ≤ p ∧ p ≤ 9223372036854775807) (A : Option Addr) (n c : Nat) (R : Spine) (xss : List (List Int)) (hr : RdM w A c R xss) (hn : xss.length = n) (hw : WfM xss) (hz : (n : Int) + (tot xss : Nat) ≤ 1048576)
    (A1 : Option Addr) (m c1 : Nat) (R1 : Spine) (cls : List (List Int)) (hr1 : RdM w A1 c1 R1 cls) (hm : cls.length = m) (hw1 : WfM cls) (hz1 : (m : Int) + (tot cls : Nat) ≤ 1048576) (hcap : NilCap R1 cls.length) :
    Calls Try.prog 50 #[.agg #[.int .i64 p, .slice A n c], .slice A1 m c1] w (PostV w (.bool (resB p xss cls))) := by
  have hB0 := below_boxed w (.cells #[.int .i64 p, .slice A n c] 28)
  have hX := BoxD.made w p A n c 28
  have hO := l10Ok_c _ w.heap.size A n c R xss p hX (hr.below hB0) hn
  have HB0 := Lib.hid hB0
  have HX := Lib.hid hX
  clear hp hw hz hw1 hcap
  rcases hd : dsgB p xss with _ | _
  · rw [hd] at hO
    rw [show resB p xss cls = false by simp [resB, hd]]
    have HO := Lib.hid hO
    clear hO hd hX hB0 hr hn hr1 hm hz1
    go_enter Try.func50, Try.ntmps50
    go_wp2_with fail
    refine (HO.out).mono ?_
    rintro e w2 ⟨rfl, q0, rfl⟩
    go_wp2
    go_ret
    exact ⟨rfl, below_drewN HB0.out q0⟩
  rw [hd] at hO
  have HO := Lib.hid hO
  have hD := dsgB_true.1 hd
  obtain ⟨P, rfl⟩ : ∃ P : Nat, p = (P : Int) := ⟨p.toNat, by have := hD.1.1; omega⟩
  obtain ⟨T, hT⟩ : ∃ T, T = decide (resOk P xss cls) := ⟨_, rfl⟩
  rw [show resB (P : Int) xss cls = T by rw [hT]; simp [resB, hd]]
  have HT := Lib.hid hT
  have HCl := Lib.hid (fun (W : World) (hx : BoxD W w.heap.size (P : Int) A n c) (hb : Below w.heap.size w W) (k : Nat) (hk : k < cls.length) => l14Class_c W w.heap.size P A n c R xss hx (hr.below hb) hn hD (R1 k).1 (row cls k).length (R1 k).2 (row cls k) ((hr1.below hb).rows k hk) rfl (by have := row_le_tot hk; omega))
  have HR1 := Lib.hid hr1
  have HM := Lib.hid hm
  have hm20 : m ≤ 1048576 := by omega
  have hn128 : n ≤ 128 := by have := hD.2.1; omega
  have HNx := Lib.hid hn
  have HTot := Lib.hid (show ∀ k, (flatTo cls k).length ≤ 1048576 from fun k => by rw [flatTo_len]; have := tot_take_le cls k; omega)
  have HRt := Lib.hid (show ∀ k, k < m → (row cls k).length ≤ 1048576 from fun k hk => by have := row_le_tot (show k < cls.length by omega); omega)
  have HTs := Lib.hid (show ∀ k, k < m → (flatTo cls k).length + (row cls k).length ≤ 1048576 from fun k hk => by rw [flatTo_len]; have := row_le_tot (show k < cls.length by omega); omega)
  clear hO hd hX hB0 hr hn hr1 hm hz1 hD hT
  go_enter Try.func50, Try.ntmps50
  go_wp2_with fail
  refine (HO.out).mono ?_
  rintro e w2 ⟨rfl, q0, rfl⟩
  have hz2 : w.heap.size + 1 ≤ ((w.alloc (.cells #[.int .i64 (P : Int), .slice A n c] 28)).drewN q0).heap.size := by
    show w.heap.size + 1 ≤ (w.alloc (.cells #[.int .i64 (P : Int), .slice A n c] 28)).heap.size
    simp
  have HX2 := Lib.hid (show BoxD ((w.alloc (.cells #[.int .i64 (P : Int), .slice A n c] 28)).drewN q0) w.heap.size (P : Int) A n c from HX.out.below (below_drewN (Below.refl _ _) q0))
  have HB2 := Lib.hid (below_drewN HB0.out q0)
  generalize ((w.alloc (.cells #[.int .i64 (P : Int), .slice A n c] 28)).drewN q0) = w2 at *
  have HE0 := Lib.hid (OwnI.lit0 w2 (lo := w.heap.size + 1) hz2)
  have HB2e := Lib.hid ((Below.refl (w.heap.size + 1) w2).alloc hz2 (.cells #[] 2))
  go_wp2
  go_loopw [5, 6, 7] (fun o mo i wr => ∃ (k q : Nat) (A' : Option Addr) (c' : Nat), k ≤ m ∧ i = .int .i64 k ∧ mo = .int .i64 ((flatTo cls k).length : Nat) ∧ o = .slice A' q c' ∧ Hid ((putsTo (nth (flatTo cls k)) (flatTo cls k).length).length = q) ∧ Hid (∀ j, j < k → classB P xss (row cls j) = true) ∧ Hid (OwnI wr (w.heap.size + 1) A' c' (putsTo (nth (flatTo cls k)) (flatTo cls k).length)) ∧ Hid (Below (w.heap.size + 1) w2 wr)) (fun _ _ i _ => m - (intOf i).toNat)
  case atStart => exact ⟨0, 0, _, _, Nat.zero_le _, rfl, rfl, rfl, Lib.hid (by rw [flatTo_zero]; rfl), Lib.hid (fun j hj => absurd hj (by omega)), Lib.hid (by rw [flatTo_zero]; exact HE0.out), HB2e⟩
  case round =>
    obtain ⟨k, q, A', c', hk, rfl, rfl, rfl, HL, HOk, HO3, HB3⟩ := hrel
    have HBw := Lib.hid (HB2.out.trans (HB3.out.mono (by omega)))
    have HXw := Lib.hid (HX2.out.step (lo := w.heap.size + 1) (by omega) HB3.out)
    have hz3 : w.heap.size + 1 ≤ wr.heap.size := by have := HB3.out.size; omega
    have hf20 := HTot.out k
    by_cases hlt : k < m
    · have hkx : k < cls.length := by rw [HM.out]; exact hlt
      obtain ⟨b, off, e, hb, hc⟩ := HR1.out.at_ k hkx
      subst e
      have hcc := (HBw.out.cell (p := ⟨b, off + k, none⟩) hb).trans hc
      have hCk := HCl.out wr HXw.out HBw.out k hkx
      have hk0 : (0 : Int) ≤ (k : Int) := by omega
      have hk1 : (k : Int) < (m : Int) := by omega
      rcases hcb : classB P xss (row cls k) with _ | _
      · rw [hcb] at hCk
        have HCk := Lib.hid hCk
        have HF := Lib.hid (show T = false by rw [HT.out]; exact decide_eq_false (fun h => by have := h.1 k hkx; rw [hcb] at this; cases this))
        generalize (flatTo cls k).length = fl at *
        clear hCk hcb hc
        go_wp2_with fail
        refine (HCk.out).mono ?_
        rintro e w4 ⟨rfl, hb4⟩
        have HB4 := Lib.hid (HBw.out.trans (hb4.mono (by omega)))
        clear hb4
        go_wp2
        go_ret
        exact ⟨ret_b HF.out.symm, HB4.out⟩
      · rw [hcb] at hCk
        have HCk := Lib.hid hCk
        have HOk2 := Lib.hid (show ∀ j, j < k + 1 → classB P xss (row cls j) = true from fun j hj => by
          by_cases e : j = k
          · subst e; exact hcb
          · exact HOk.out j (by omega))
        have HRk := Lib.hid (HR1.out.rows k hkx)
        have HS := Lib.hid (flatTo_succ hkx)
        have hq2 := HTs.out k hlt
        have HCc := Lib.hid hc
        have hb' := hb
        obtain ⟨yl, hyl⟩ : ∃ yl, yl = (row cls k).length := ⟨_, rfl⟩
        obtain ⟨fl, hfl⟩ : ∃ fl, fl = (flatTo cls k).length := ⟨_, rfl⟩
        rw [← hyl] at hcc HCk hq2 HCc
        rw [← hfl] at hq2 hf20 HL HO3 ⊢
        have HYl := Lib.hid hyl
        have HFl := Lib.hid hfl
        have HG := Lib.hid (show ∀ j, j < yl → nth (flatTo cls (k + 1)) (fl + j) = nth (row cls k) j from fun j hj => by
          rw [HS.out, hfl]
          simp [nth, List.getElem?_append_right])
        have HG0 := Lib.hid (show ∀ j, j < fl → nth (flatTo cls (k + 1)) j = nth (flatTo cls k) j from fun j hj => by
          rw [HS.out]
          simp [nth, List.getElem?_append_left (show j < (flatTo cls k).length by omega)])
        have HP0 := Lib.hid (show putsTo (nth (flatTo cls (k + 1))) fl = putsTo (nth (flatTo cls k)) fl from by
          have : ∀ t, t ≤ fl → putsTo (nth (flatTo cls (k + 1))) t = putsTo (nth (flatTo cls k)) t := fun t ht => by
            induction t with
            | zero => rfl
            | succ t ih => rw [putsTo, putsTo, ih (by omega), HG0.out t (by omega)]
          exact this fl (Nat.le_refl _))
        have HFl2 := Lib.hid (show (flatTo cls (k + 1)).length = fl + yl by rw [HS.out, List.length_append, hfl, hyl])
        clear hCk hcb hc hyl hfl
        go_wp2_with fail
        refine (HCk.out).mono ?_
        rintro e w4 ⟨rfl, hb4⟩
        have HB4 := Lib.hid (HB3.out.trans (hb4.mono hz3))
        have HO4 := Lib.hid (show OwnI w4 (w.heap.size + 1) A' c' (putsTo (nth (flatTo cls (k + 1))) (fl + 0)) by have h9 := HO3.out.below hb4; rw [← HP0.out] at h9; exact h9)
        have HL4 := Lib.hid (show (putsTo (nth (flatTo cls (k + 1))) (fl + 0)).length = q by have h9 := HL.out; rw [← HP0.out] at h9; exact h9)
        clear hb4 hcc
        go_wp2
        go_loopw [5, 6, 8] (fun o mo i wr => ∃ (j q : Nat) (A' : Option Addr) (c' : Nat), j ≤ yl ∧ i = .int .i64 j ∧ mo = .int .i64 ((fl + j : Nat) : Int) ∧ o = .slice A' q c' ∧ Hid ((putsTo (nth (flatTo cls (k + 1))) (fl + j)).length = q) ∧ Hid (OwnI wr (w.heap.size + 1) A' c' (putsTo (nth (flatTo cls (k + 1))) (fl + j))) ∧ Hid (Below (w.heap.size + 1) w2 wr)) (fun _ _ i _ => yl - (intOf i).toNat)
        case atStart => exact ⟨0, q, A', c', Nat.zero_le _, rfl, rfl, rfl, HL4, HO4, HB4⟩
        case round =>
          obtain ⟨j, q, A', c', hj, rfl, rfl, rfl, HL, HO5, HB5⟩ := hrel
          have HBv := Lib.hid (HB2.out.trans (HB5.out.mono (by omega)))
          have hcc := (HBv.out.cell (p := ⟨b, off + k, none⟩) hb').trans HCc.out
          have hz5 : w.heap.size + 1 ≤ wr.heap.size := by have := HB5.out.size; omega
          obtain ⟨mv, hmv⟩ : ∃ mv, mv = fl + j := ⟨_, rfl⟩
          rw [← hmv] at HL HO5 ⊢
          have hmv2 : mv ≤ 1048576 := by omega
          by_cases hlj : j < yl
          · obtain ⟨b2, o2, e2, hb2, hd2⟩ := HRk.out.at_ j (by rw [← HYl.out]; exact hlj)
            have hdd := (HBv.out.cell (p := ⟨b2, o2 + j, none⟩) hb2).trans hd2
            rw [e2] at hcc
            have hj0 : (0 : Int) ≤ (j : Int) := by omega
            have hj1 : (j : Int) < (yl : Int) := by omega
            have hqb : q ≤ 1048576 := by have := putsTo_len (nth (flatTo cls (k + 1))) mv; rw [HL.out] at this; omega
            obtain ⟨v, hv⟩ : ∃ v, v = nth (row cls k) j := ⟨_, rfl⟩
            rw [← hv] at hdd
            have HP := Lib.hid (l00Put_c wr A' q c' (putsTo (nth (flatTo cls (k + 1))) mv) v HO5.out.rd HL.out hqb)
            have HV := Lib.hid (show putsTo (nth (flatTo cls (k + 1))) (fl + (j + 1)) = putL (putsTo (nth (flatTo cls (k + 1))) mv) v by rw [show fl + (j + 1) = (fl + j) + 1 by omega, putsTo, HG.out j hlj, ← hv, hmv])
            have HMv := Lib.hid hmv
            clear hd2 hv hmv e2
            go_wp2_with fail
            refine (HP.out).mono ?_
            rintro e w6 ⟨⟨A6, n6, c6, rfl, hn6, ho6⟩, hb6⟩
            have HB6 := Lib.hid (HB5.out.trans (hb6.mono hz5))
            have HO6 := Lib.hid (show OwnI w6 (w.heap.size + 1) A6 c6 (putsTo (nth (flatTo cls (k + 1))) (fl + (j + 1))) by rw [HV.out]; exact ho6.lower hz5)
            have HL6 := Lib.hid (show (putsTo (nth (flatTo cls (k + 1))) (fl + (j + 1))).length = n6 by rw [HV.out]; exact hn6)
            clear hn6 ho6 hb6 hcc hdd
            go_wp2
            go_roundw
            case rel => exact ⟨j + 1, n6, A6, c6, by omega, by go_num, by have := HMv.out; go_num, rfl, HL6, HO6, HB6⟩
            case measure => simp [intOf]; omega
          · obtain rfl : j = yl := by omega
            have HL9 := Lib.hid (show (putsTo (nth (flatTo cls (k + 1))) (flatTo cls (k + 1)).length).length = q by rw [HFl2.out, ← hmv]; exact HL.out)
            have HO9 := Lib.hid (show OwnI wr (w.heap.size + 1) A' c' (putsTo (nth (flatTo cls (k + 1))) (flatTo cls (k + 1)).length) by rw [HFl2.out, ← hmv]; exact HO5.out)
            have HM9 := Lib.hid (show (mv : Int) = (((flatTo cls (k + 1)).length : Nat) : Int) by rw [HFl2.out, hmv])
            clear hmv
            go_wp2
            go_roundw
            case rel => exact ⟨k + 1, q, A', c', by omega, by go_num, by rw [HM9.out], rfl, HL9, HOk2, HO9, HB5⟩
            case measure => simp [intOf]; omega
    · obtain rfl : k = m := by omega
      have HEnd := Lib.hid (show T = decide ((flatTo cls k).length = n ∧ q = (flatTo cls k).length) by
        rw [HT.out]
        refine decide_eq_decide.2 ?_
        unfold resOk
        rw [HM.out, HNx.out, ← HL.out]
        have h1 := res_same (flat_in (P := P) (xss := xss) (cls := cls) (k := k) (by rw [HM.out]; exact Nat.le_refl _) HOk.out)
        rw [HNx.out] at h1
        rw [h1]
        exact ⟨fun h => h.2, fun h => ⟨by rw [HM.out] at *; exact HOk.out, h⟩⟩)
      have hq1 : q ≤ 1048576 := by have := putsTo_len (nth (flatTo cls k)) (flatTo cls k).length; rw [HL.out] at this; omega
      generalize (flatTo cls k).length = fl at *
      have hd1 := HXw.out.c1
      by_cases e1 : fl = n
      · have hg1 : ((fl : Int) == (n : Int)) = true := by simp [e1]
        have hg1' : (fl == n) = true := by simp [e1]
        by_cases e2 : q = fl
        · have hg2 : ((q : Int) == (fl : Int)) = true := by simp [e2]
          have hg2' : (q == fl) = true := by simp [e2]
          have HF := Lib.hid (show T = true by rw [HEnd.out]; exact decide_eq_true ⟨e1, e2⟩)
          clear e1 e2
          go_wp2
          go_ret
          exact ⟨ret_b HF.out.symm, HBw.out⟩
        · have hg2 : ((q : Int) == (fl : Int)) = false := by simp; omega
          have hg2' : (q == fl) = false := by simp [e2]
          have HF := Lib.hid (show T = false by rw [HEnd.out]; exact decide_eq_false (fun h => e2 h.2))
          clear e1 e2
          go_wp2
          go_ret
          exact ⟨ret_b HF.out.symm, HBw.out⟩
      · have hg1 : ((fl : Int) == (n : Int)) = false := by simp; omega
        have hg1' : (fl == n) = false := by simp [e1]
        have HF := Lib.hid (show T = false by rw [HEnd.out]; exact decide_eq_false (fun h => e1 h.1))
        clear e1
        go_wp2
        go_ret
        exact ⟨ret_b HF.out.symm, HBw.out⟩
end Go.Proofs.Ytpgmjfgjlddhgaa
