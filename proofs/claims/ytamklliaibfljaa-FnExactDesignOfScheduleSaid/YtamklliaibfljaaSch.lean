/-
  ValidSchedule of the program and of the reference. Conditions: those of each theorem.
-/
import Derived.Test.YtamklliaibfljaaSchP
import Derived.Test.YtamklliaibfljaaClass
import Derived.Test.YtamklliaibfljaaThird
namespace Go.Proofs.Ytamklliaibfljaa
open Go.RowKit
set_option linter.unusedVariables false
set_option linter.unusedSimpArgs false

theorem InM.sq_store {w : World} {lo hi : Nat} {A : Option Addr} {c : Nat} {R : Spine} {f : Nat → Nat → Int} {m k i j g' : Nat} (h : InM w lo hi A c R (sqTo f m k)) (hi' : i < k) (hj : j < m) (e : (R i).1 = some ⟨g', 0, none⟩) (v : Int) :
    InM (w.setCell ⟨g', j, none⟩ (.int .i64 v)) lo hi A c R (sqTo (upd f i j v) m k) :=
  ⟨h.own.sq_store hi' hj e v, h.top, fun q hq => h.tops q (by rw [length_sqTo] at hq ⊢; exact hq)⟩
theorem InM.other {w : World} {lo hi : Nat} {A : Option Addr} {c : Nat} {R : Spine} {xss : List (List Int)} (h : InM w lo hi A c R xss) {p : Addr} (hp : hi ≤ p.block) (u : Value) : InM (w.setCell p u) lo hi A c R xss :=
  h.step fun k _ h2 => Below.heap_setCell w p u k (by omega)
theorem InM.drewN {w : World} {lo hi : Nat} {A : Option Addr} {c : Nat} {R : Spine} {xss : List (List Int)} (h : InM w lo hi A c R xss) (m : Nat) : InM (w.drewN m) lo hi A c R xss := ⟨h.own.drewN m, h.top, h.tops⟩
theorem InM.cast {w : World} {lo hi : Nat} {A : Option Addr} {c : Nat} {R : Spine} {xss yss : List (List Int)} (h : InM w lo hi A c R xss) (e : xss = yss) : InM w lo hi A c R yss := e ▸ h

theorem isTeams_c (n : Int) (w : World) : Calls Try.prog 57 #[.int .i64 n] w fun e w' => e = .returned (.bool (inB n 2 32)) ∧ w = w' := by
  have HW := Lib.hid (within_c n 2 32 w)
  go_enter Try.func57, Try.ntmps57
  go_wp2_with fail
  refine (HW.out).mono ?_
  rintro e w' ⟨rfl, rfl⟩
  go_wp2
  go_ret
  exact ⟨rfl, rfl⟩

/-- Who plays, as a list of flags. -/
def bsyL (N : Nat) (x : List (List (List Int))) (r i : Nat) : List Bool := (List.range N).map (bsy x r i)
theorem bsyL_len (N : Nat) (x : List (List (List Int))) (r i : Nat) : (bsyL N x r i).length = N := by simp [bsyL]
theorem bsyL_zero (N : Nat) (x : List (List (List Int))) (r : Nat) : bsyL N x r 0 = List.replicate N false := by
  apply List.ext_getElem
  · simp [bsyL]
  · intro k h1 h2; simp [bsyL, bsy]
theorem bsyL_flag {N : Nat} {x : List (List (List Int))} {r i t : Nat} (h : t < N) : flag (bsyL N x r i) t = bsy x r i t := by simp [flag, bsyL, h]
theorem bsyL_set {N : Nat} (x : List (List (List Int))) (r i : Nat) : ((bsyL N x r i).set (pA x r i) true).set (pB x r i) true = bsyL N x r (i + 1) := by
  apply List.ext_getElem
  · simp [bsyL]
  · intro k h1 h2
    rw [List.getElem_set, List.getElem_set]
    simp only [bsyL, List.getElem_map, List.getElem_range, bsy]
    by_cases e1 : pB x r i = k
    · rw [if_pos e1]; simp [e1]
    · rw [if_neg e1]
      by_cases e2 : pA x r i = k
      · rw [if_pos e2]; simp [e2]
      · rw [if_neg e2]
        have h3 : (k == pA x r i) = false := by simp; omega
        have h4 : (k == pB x r i) = false := by simp; omega
        rw [h3, h4]; simp

set_option maxRecDepth 100000 in
set_option maxHeartbeats 8000000 in
theorem implValidSchedule_c (w : World) (n : Int) (hn64 : -9223372036854775808 ≤ n ∧ n ≤ 9223372036854775807) (A : Option Addr) (q c : Nat) (S : Spine3) (x : List (List (List Int))) (hr : RdL w A c S x) (hq : x.length = q) (hw : WfT x) (hz : (q : Int) + (wgt x : Nat) ≤ 1048576) :
    Calls Try.prog 29 #[.int .i64 n, .slice A q c] w (PostV w (.bool (schB n x))) := by
  clear hw
  have hT0 := isTeams_c n w
  obtain ⟨T, hT⟩ : ∃ T, T = schB n x := ⟨_, rfl⟩
  rw [← hT]
  have HT := Lib.hid hT
  clear hT
  by_cases hnt : 2 ≤ n ∧ n ≤ 32
  · rw [inB_true.2 hnt] at hT0
    have HT0 := Lib.hid hT0
    obtain ⟨N, rfl⟩ : ∃ N : Nat, n = (N : Int) := ⟨n.toNat, by omega⟩
    have hN2 : 2 ≤ N := by omega
    have hN32 : N ≤ 32 := by omega
    have hmk := fun W : World => run_make_row' (P := Try.prog) 66 4 (.bool false) 1 Try.underlying66 infoB rfl .i64 .i64 N (by omega) (by omega) W
    have HR := Lib.hid hr
    have HQ := Lib.hid hq
    have HZ := Lib.hid hz
    clear hT0 hr hq
    go_enter Try.func29, Try.ntmps29
    go_wp2_with fail
    refine (HT0.out).mono ?_
    rintro e w' ⟨rfl, rfl⟩
    go_wp2_with fail
    refine (emptySquare_c w N (by omega)).mono ?_
    rintro e w1 ⟨⟨A5, n5, c5, R5, rfl, hn5, ho5⟩, hb5⟩
    obtain rfl : n5 = N := by rw [length_sqTo] at hn5; exact hn5.symm
    obtain ⟨G5, eA5, _, _, _, _⟩ := ho5.at_ (k := 0) (by rw [length_sqTo]; omega)
    subst eA5
    have HO5 := Lib.hid (show InM w1 w.heap.size w1.heap.size (some ⟨G5, 0, none⟩) c5 R5 (sqTo (metAll x 0) n5 n5) from ho5.in_)
    have HB5 := Lib.hid hb5
    have hs1 := hb5.size
    clear hn5 ho5 hb5
    go_wp2
    go_loopw [21] (fun i wr => ∃ r : Nat, r ≤ q ∧ i = .int .i64 r ∧ Hid (rndsOk (n5 : Int) x r) ∧ Hid (InM wr w.heap.size w1.heap.size (some ⟨G5, 0, none⟩) c5 R5 (sqTo (metAll x r) n5 n5)) ∧ Hid (Below w.heap.size w wr) ∧ w1.heap.size ≤ wr.heap.size) (fun i _ => q - (intOf i).toNat)
    case atStart => exact ⟨0, Nat.zero_le _, rfl, Lib.hid (fun r hr => absurd hr (by omega)), HO5, HB5, Nat.le_refl _⟩
    case round =>
      obtain ⟨r, hrq, rfl, HOk, HO, HB, hs⟩ := hrel
      by_cases hlr : r < q
      · have hrx : r < x.length := by rw [HQ.out]; exact hlr
        obtain ⟨b, off, e, hb, hc⟩ := HR.out.at_ r hrx
        subst e
        have hcc := (HB.out.cell (p := ⟨b, off + r, none⟩) hb).trans hc
        obtain ⟨k, hk⟩ : ∃ k, k = (pln x r).length := ⟨_, rfl⟩
        rw [← hk] at hcc
        have HK := Lib.hid hk
        have HPr := Lib.hid (HR.out.rows r hrx)
        have hk20 : k ≤ 1048576 := by have := pln_le_wgt hrx; omega
        have HB2 := Lib.hid (HB.out.alloc (by omega) (.cells (madeCells #[.bool false] n5) 4))
        have HO2 := Lib.hid (HO.out.step (w' := wr.alloc (.cells (madeCells #[.bool false] n5) 4)) (fun j _ h2 => Below.heap_alloc wr _ j (by omega)))
        have HP0 := Lib.hid (show OwnB (wr.alloc (.cells (madeCells #[.bool false] n5) 4)) w1.heap.size wr.heap.size n5 (bsyL n5 x r 0) by rw [bsyL_zero]; exact OwnB.made wr n5 (by unfold maxLen; omega) hs)
        clear hc hk
        go_wp2
        have hgs : w1.heap.size ≤ wr.heap.size := hs
        obtain ⟨g8, hg8⟩ : ∃ g8, g8 = wr.heap.size := ⟨_, rfl⟩
        rw [← hg8] at HP0 hgs ⊢
        clear hg8 hmk hcc
        have hs2 : w1.heap.size ≤ (wr.alloc (.cells (madeCells #[.bool false] n5) 4)).heap.size := by simp; omega
        generalize (wr.alloc (.cells (madeCells #[.bool false] n5) 4)) = w2 at *
        go_loopw [29] (fun i wr => ∃ i0 : Nat, i0 ≤ k ∧ i = .int .i64 i0 ∧ Hid (rndOk (n5 : Int) x r i0) ∧ Hid (InM wr w.heap.size w1.heap.size (some ⟨G5, 0, none⟩) c5 R5 (sqTo (metIn (metAll x r) x r i0) n5 n5)) ∧ Hid (OwnB wr w1.heap.size g8 n5 (bsyL n5 x r i0)) ∧ Hid (Below w.heap.size w wr) ∧ w1.heap.size ≤ wr.heap.size) (fun i _ => k - (intOf i).toNat)
        case atStart => exact ⟨0, Nat.zero_le _, rfl, Lib.hid (fun i hi => absurd hi (by omega)), HO2, HP0, HB2, hs2⟩
        case round =>
          obtain ⟨i, hi, rfl, HOk2, HO3, HP, HB3, hs3⟩ := hrel
          by_cases hlk : i < k
          · have hix : i < (pln x r).length := by rw [← HK.out]; exact hlk
            obtain ⟨b1, o1, e1, hb1, hc1⟩ := HPr.out.at_ i hix
            have hcc1 := (HB3.out.cell (p := ⟨b1, o1 + i, none⟩) hb1).trans hc1
            have HNo := Lib.hid (show ¬ pairOk (n5 : Int) x r i → T = false from fun h => by rw [HT.out]; exact decide_eq_false (fun hh => h (hh.2.1 r hrx i hix)))
            obtain ⟨p, hp⟩ : ∃ p, p = pr x r i := ⟨_, rfl⟩
            have hrp := HPr.out.rows i hix
            rw [show row (pln x r) i = p from hp.symm] at hcc1 hrp
            have HPp := Lib.hid hp
            have HRp := Lib.hid hrp
            obtain ⟨L, hL⟩ : ∃ L, L = p.length := ⟨_, rfl⟩
            rw [← hL] at hcc1
            rw [e1]
            clear hc1 hrp
            by_cases hl2 : L = 2
            · subst hl2
              obtain ⟨b2, o2, e2, hb2, hd0⟩ := HRp.out.at_ 0 (by omega)
              obtain ⟨b3, o3, e3, hb3, hd1⟩ := HRp.out.at_ 1 (by omega)
              rw [e2] at e3 hcc1
              injection e3 with e3
              injection e3 with e3 e4
              subst e3 e4
              have hq0 := (HB3.out.cell (p := ⟨b2, o2 + 0, none⟩) hb2).trans hd0
              have hq1 := (HB3.out.cell (p := ⟨b2, o2 + 1, none⟩) hb2).trans hd1
              rw [Nat.add_zero] at hq0
              obtain ⟨u, hu⟩ : ∃ u, u = nth p 0 := ⟨_, rfl⟩
              obtain ⟨v, hv⟩ : ∃ v, v = nth p 1 := ⟨_, rfl⟩
              rw [← hu] at hq0
              rw [← hv] at hq1
              have HU := Lib.hid hu
              have HV := Lib.hid hv
              have HL := Lib.hid hL
              clear hu hv hd0 hd1 hL hp
              have hWu := fun m => within_c u 0 ((n5 : Int) - 1) (wr.drewN m)
              have hWv := fun m => within_c v 0 ((n5 : Int) - 1) (wr.drewN m)
              by_cases h01 : u < v
              · have hd1 : decide (v ≤ u) = false := by simp; omega
                by_cases hiu : 0 ≤ u ∧ u ≤ (n5 : Int) - 1
                · rw [inB_true.2 hiu] at hWu
                  have HWu := Lib.hid hWu
                  by_cases hiv : 0 ≤ v ∧ v ≤ (n5 : Int) - 1
                  · rw [inB_true.2 hiv] at hWv
                    have HWv := Lib.hid hWv
                    clear hWu hWv
                    go_wp2
                    go_quiet ((go_at_call 59; first | (with_reducible exact quiet_drN (HWu.out _)) | (with_reducible exact quiet_dr (HWu.out _)) | (with_reducible exact quiet_drN (HWv.out _)) | (with_reducible exact quiet_dr (HWv.out _))))
                    have HO4 := Lib.hid (HO3.out.drewN nq)
                    have HP4 := Lib.hid (HP.out.drewN nq)
                    have HB4 := Lib.hid (below_drewN HB3.out nq)
                    have hs4 : w1.heap.size ≤ (wr.drewN nq).heap.size := hs3
                    have hr0 : (wr.drewN nq).cell? ⟨b2, o2, none⟩ = some (.int .i64 u) := hq0
                    have hr1 : (wr.drewN nq).cell? ⟨b2, o2 + 1, none⟩ = some (.int .i64 v) := hq1
                    clear hq0 hq1 hcc1
                    generalize wr.drewN nq = w4 at *
                    obtain ⟨a, rfl⟩ : ∃ a : Nat, u = (a : Int) := ⟨u.toNat, by omega⟩
                    obtain ⟨bb, rfl⟩ : ∃ bb : Nat, v = (bb : Int) := ⟨v.toNat, by omega⟩
                    have haN : a < n5 := by omega
                    have hbN : bb < n5 := by omega
                    have hab : a < bb := by omega
                    have ha0 : (0 : Int) ≤ (a : Int) := by omega
                    have ha1 : (a : Int) < (n5 : Int) := by omega
                    have hb0 : (0 : Int) ≤ (bb : Int) := by omega
                    have hb1' : (bb : Int) < (n5 : Int) := by omega
                    have HA := Lib.hid (show pA x r i = a by unfold pA; rw [← HPp.out, ← HU.out]; rfl)
                    have HBb := Lib.hid (show pB x r i = bb by unfold pB; rw [← HPp.out, ← HV.out]; rfl)
                    by_cases hi0 : i = 0
                    · have HCmp := Lib.hid (show 0 < i → cmpL (pr x r (i - 1)) p < 0 from fun h => absurd h (by omega))
                      have hk0 : decide (0 < (i : Int)) = false := by simp; omega
                      have hk0' : decide (0 < i) = false := by simp; omega
                      clear hi0
                      go_wp2
                      go_quiet (fail)
                      have HO5 := Lib.hid (HO4.out.drewN nq)
                      have HP5 := Lib.hid (HP4.out.drewN nq)
                      have HB5 := Lib.hid (below_drewN HB4.out nq)
                      have hs5 : w1.heap.size ≤ (w4.drewN nq).heap.size := hs4
                      clear hr0 hr1
                      generalize w4.drewN nq = w5 at *
                      obtain ⟨hpa, hfa⟩ := HP5.out.at_ (k := a) haN
                      obtain ⟨hpb, hfb⟩ := HP5.out.at_ (k := bb) hbN
                      rw [bsyL_flag haN] at hpa
                      rw [bsyL_flag hbN] at hpb
                      obtain ⟨g, g', eg, er, hlo, hgs', hg1, hg2⟩ := HO5.out.own.sq_row (i := a) haN (by omega)
                      injection eg with eg
                      injection eg with eg
                      subst eg
                      obtain ⟨hm1, hmf⟩ := hg2 bb hbN
                      have hbit := metIn_bit (metAll_bit x r) x r i a bb
                      obtain ⟨z, hz0⟩ : ∃ z, z = metIn (metAll x r) x r i a bb := ⟨_, rfl⟩
                      rw [← hz0] at hm1 hbit
                      have HZ0 := Lib.hid hz0
                      have hg9 : g' < w1.heap.size := HO5.out.tops a (by rw [length_sqTo]; exact haN) g' er
                      have HX1 := Lib.hid hg2
                      have HER := Lib.hid er
                      clear hz0 hg2 er
                      rcases hba : bsy x r i a with _ | _
                      · rw [hba] at hpa
                        rcases hbb : bsy x r i bb with _ | _
                        · rw [hbb] at hpb
                          by_cases hz9 : z = 0
                          · have hd9 : decide (0 < z) = false := by simp; omega
                            have HOkk := Lib.hid (rndOk_succ HOk2.out (show pairOk (n5 : Int) x r i from ⟨by rw [← HPp.out, ← HL.out], by rw [← HPp.out, ← HU.out, ← HV.out]; omega, by rw [← HPp.out]; exact HCmp.out, by rw [HA.out, HBb.out]; exact ⟨hba, hbb, by rw [← HZ0.out]; exact hz9⟩⟩))
                            have hst := HO5.out.sq_store (v := 1) haN hbN HER.out
                            rw [show upd (metIn (metAll x r) x r i) a bb 1 = metIn (metAll x r) x r (i + 1) by rw [metIn, HA.out, HBb.out]] at hst
                            have hO6 := (HO5.out.other (p := ⟨g8, a, none⟩) hgs (.bool true)).other (p := ⟨g8, bb, none⟩) hgs (.bool true)
                            have hst6 := hO6.sq_store (v := 1) haN hbN HER.out
                            rw [show upd (metIn (metAll x r) x r i) a bb 1 = metIn (metAll x r) x r (i + 1) by rw [metIn, HA.out, HBb.out]] at hst6
                            have HO7 := Lib.hid hst6
                            have hP7 := ((HP5.out.stored a true).stored bb true).setCell_other (p := ⟨g', bb, none⟩) (by show g8 ≠ g'; omega) (.int .i64 1)
                            rw [show ((bsyL n5 x r i).set a true).set bb true = bsyL n5 x r (i + 1) by rw [← bsyL_set, HA.out, HBb.out]] at hP7
                            have HP7 := Lib.hid hP7
                            have HB7 := Lib.hid (((HB5.out.setCell (p := ⟨g8, a, none⟩) (by show w.heap.size ≤ g8; omega) (.bool true)).setCell (p := ⟨g8, bb, none⟩) (by show w.heap.size ≤ g8; omega) (.bool true)).setCell (p := ⟨g', bb, none⟩) hlo (.int .i64 1))
                            have hpb2 : (w5.setCell ⟨g8, a, none⟩ (.bool true)).cell? ⟨g8, bb, none⟩ = some (.bool false) := (World.cell?_setCell_other _ _ _ _ (by intro e'; injection e' with e1 e2; omega)).trans hpb
                            have hfb2 := ((HP5.out.stored a true).at_ (k := bb) hbN).2
                            have hne1 : g8 ≠ G5 := by have := HO5.out.top G5 rfl; omega
                            have hne2 : g8 ≠ g' := by omega
                            subst hz9
                            clear hst hst6 hO6 hP7 hba hbb hbit
                            go_wp2
                            go_roundw
                            case rel => exact ⟨i + 1, by omega, by go_num, HOkk, HO7, HP7, HB7, by first | exact hs5 | simpa [World.setCell] using hs5⟩
                            case measure => simp [intOf]; omega
                          · have hd9 : decide (0 < z) = true := by simp; omega
                            have HF := Lib.hid (HNo.out fun h => hz9 (by have := h.2.2.2.2.2; rw [HA.out, HBb.out, ← HZ0.out] at this; exact this))
                            clear hz9 hba hbb hbit
                            go_wp2
                            go_ret
                            exact ⟨ret_b HF.out.symm, HB5.out⟩
                        · rw [hbb] at hpb
                          have HF := Lib.hid (HNo.out fun h => by have := h.2.2.2.2.1; rw [HBb.out, hbb] at this; cases this)
                          clear hba hbb hbit
                          go_wp2
                          go_ret
                          exact ⟨ret_b HF.out.symm, HB5.out⟩
                      · rw [hba] at hpa
                        have HF := Lib.hid (HNo.out fun h => by have := h.2.2.2.1; rw [HA.out, hba] at this; cases this)
                        clear hba hbit
                        go_wp2
                        go_ret
                        exact ⟨ret_b HF.out.symm, HB5.out⟩
                    · obtain ⟨b9, o9, e9, hb9, hc9⟩ := HPr.out.at_ (i - 1) (by omega)
                      rw [e1] at e9
                      injection e9 with e9
                      injection e9 with e9 e10
                      subst e9 e10
                      have hcc9 := (HB4.out.cell (p := ⟨b1, o1 + (i - 1), none⟩) hb9).trans hc9
                      have hcmp := Compare_c w4 ((S r).2.2 (i - 1)).1 (some ⟨b2, o2, none⟩) (row (pln x r) (i - 1)).length 2 ((S r).2.2 (i - 1)).2 ((S r).2.2 i).2 (row (pln x r) (i - 1)) p ((HPr.out.rows (i - 1) (by omega)).keep (by have := HB4.out.size; exact this) fun _ hp => HB4.out.cell hp) rfl (by rw [← e2]; exact HRp.out.keep (by have := HB4.out.size; exact this) fun _ hp => HB4.out.cell hp) HL.out.symm
                      have hbd := cmpL_bd (row (pln x r) (i - 1)) p
                      have hk0 : decide (0 < (i : Int)) = true := by simp; omega
                      have hk2 : decide (0 < i) = true := decide_eq_true (by omega)
                      have hk0' : (0 : Int) < (i : Int) := by omega
                      have hk1 : 0 < i := by omega
                      have hsub : IntKind.i64.wrap ((i : Int) - 1) = ((i - 1 : Nat) : Int) := by rw [show (i : Int) - 1 = ((i - 1 : Nat) : Int) by omega]; exact IntWalk.i64_in _ (by omega)
                      have hs0 : (0 : Int) ≤ ((i - 1 : Nat) : Int) := by omega
                      have hs1' : ((i - 1 : Nat) : Int) < (k : Int) := by omega
                      obtain ⟨cq, hcq⟩ : ∃ cq, cq = cmpL (row (pln x r) (i - 1)) p := ⟨_, rfl⟩
                      rw [← hcq] at hcmp hbd
                      have HCQ := Lib.hid hcq
                      have HCM := Lib.hid hcmp
                      obtain ⟨Lq, hLq⟩ : ∃ Lq, Lq = (row (pln x r) (i - 1)).length := ⟨_, rfl⟩
                      rw [← hLq] at hcc9 HCM
                      clear hcq hcmp hc9 hLq hi0
                      generalize hj : i - 1 = j at hsub hs0 hs1' hcc9 HCM
                      have HJ := Lib.hid hj
                      by_cases hcq9 : cq < 0
                      · have h2' : decide (0 ≤ cq) = false := by simp; omega
                        have HCmp := Lib.hid (show 0 < i → cmpL (pr x r (i - 1)) p < 0 from fun _ => by show cmpL (row (pln x r) (i - 1)) p < 0; rw [← HCQ.out]; exact hcq9)
                        clear hj hb9
                        go_wp2_with fail
                        refine (HCM.out).mono ?_
                        rintro e w' ⟨rfl, rfl⟩
                        clear hsub hs0 hs1' hcc9
                        go_wp2
                        go_quiet (fail)
                        have HO5 := Lib.hid (HO4.out.drewN nq)
                        have HP5 := Lib.hid (HP4.out.drewN nq)
                        have HB5 := Lib.hid (below_drewN HB4.out nq)
                        have hs5 : w1.heap.size ≤ (w4.drewN nq).heap.size := hs4
                        clear hr0 hr1
                        generalize w4.drewN nq = w5 at *
                        obtain ⟨hpa, hfa⟩ := HP5.out.at_ (k := a) haN
                        obtain ⟨hpb, hfb⟩ := HP5.out.at_ (k := bb) hbN
                        rw [bsyL_flag haN] at hpa
                        rw [bsyL_flag hbN] at hpb
                        obtain ⟨g, g', eg, er, hlo, hgs', hg1, hg2⟩ := HO5.out.own.sq_row (i := a) haN (by omega)
                        injection eg with eg
                        injection eg with eg
                        subst eg
                        obtain ⟨hm1, hmf⟩ := hg2 bb hbN
                        have hbit := metIn_bit (metAll_bit x r) x r i a bb
                        obtain ⟨z, hz0⟩ : ∃ z, z = metIn (metAll x r) x r i a bb := ⟨_, rfl⟩
                        rw [← hz0] at hm1 hbit
                        have HZ0 := Lib.hid hz0
                        have hg9 : g' < w1.heap.size := HO5.out.tops a (by rw [length_sqTo]; exact haN) g' er
                        have HX1 := Lib.hid hg2
                        have HER := Lib.hid er
                        clear hz0 hg2 er
                        rcases hba : bsy x r i a with _ | _
                        · rw [hba] at hpa
                          rcases hbb : bsy x r i bb with _ | _
                          · rw [hbb] at hpb
                            by_cases hz9 : z = 0
                            · have hd9 : decide (0 < z) = false := by simp; omega
                              have HOkk := Lib.hid (rndOk_succ HOk2.out (show pairOk (n5 : Int) x r i from ⟨by rw [← HPp.out, ← HL.out], by rw [← HPp.out, ← HU.out, ← HV.out]; omega, by rw [← HPp.out]; exact HCmp.out, by rw [HA.out, HBb.out]; exact ⟨hba, hbb, by rw [← HZ0.out]; exact hz9⟩⟩))
                              have hst := HO5.out.sq_store (v := 1) haN hbN HER.out
                              rw [show upd (metIn (metAll x r) x r i) a bb 1 = metIn (metAll x r) x r (i + 1) by rw [metIn, HA.out, HBb.out]] at hst
                              have hO6 := (HO5.out.other (p := ⟨g8, a, none⟩) hgs (.bool true)).other (p := ⟨g8, bb, none⟩) hgs (.bool true)
                              have hst6 := hO6.sq_store (v := 1) haN hbN HER.out
                              rw [show upd (metIn (metAll x r) x r i) a bb 1 = metIn (metAll x r) x r (i + 1) by rw [metIn, HA.out, HBb.out]] at hst6
                              have HO7 := Lib.hid hst6
                              have hP7 := ((HP5.out.stored a true).stored bb true).setCell_other (p := ⟨g', bb, none⟩) (by show g8 ≠ g'; omega) (.int .i64 1)
                              rw [show ((bsyL n5 x r i).set a true).set bb true = bsyL n5 x r (i + 1) by rw [← bsyL_set, HA.out, HBb.out]] at hP7
                              have HP7 := Lib.hid hP7
                              have HB7 := Lib.hid (((HB5.out.setCell (p := ⟨g8, a, none⟩) (by show w.heap.size ≤ g8; omega) (.bool true)).setCell (p := ⟨g8, bb, none⟩) (by show w.heap.size ≤ g8; omega) (.bool true)).setCell (p := ⟨g', bb, none⟩) hlo (.int .i64 1))
                              have hpb2 : (w5.setCell ⟨g8, a, none⟩ (.bool true)).cell? ⟨g8, bb, none⟩ = some (.bool false) := (World.cell?_setCell_other _ _ _ _ (by intro e'; injection e' with e1 e2; omega)).trans hpb
                              have hfb2 := ((HP5.out.stored a true).at_ (k := bb) hbN).2
                              have hne1 : g8 ≠ G5 := by have := HO5.out.top G5 rfl; omega
                              have hne2 : g8 ≠ g' := by omega
                              subst hz9
                              clear hst hst6 hO6 hP7 hba hbb hbit
                              go_wp2
                              go_roundw
                              case rel => exact ⟨i + 1, by omega, by go_num, HOkk, HO7, HP7, HB7, by first | exact hs5 | simpa [World.setCell] using hs5⟩
                              case measure => simp [intOf]; omega
                            · have hd9 : decide (0 < z) = true := by simp; omega
                              have HF := Lib.hid (HNo.out fun h => hz9 (by have := h.2.2.2.2.2; rw [HA.out, HBb.out, ← HZ0.out] at this; exact this))
                              clear hz9 hba hbb hbit
                              go_wp2
                              go_ret
                              exact ⟨ret_b HF.out.symm, HB5.out⟩
                          · rw [hbb] at hpb
                            have HF := Lib.hid (HNo.out fun h => by have := h.2.2.2.2.1; rw [HBb.out, hbb] at this; cases this)
                            clear hba hbb hbit
                            go_wp2
                            go_ret
                            exact ⟨ret_b HF.out.symm, HB5.out⟩
                        · rw [hba] at hpa
                          have HF := Lib.hid (HNo.out fun h => by have := h.2.2.2.1; rw [HA.out, hba] at this; cases this)
                          clear hba hbit
                          go_wp2
                          go_ret
                          exact ⟨ret_b HF.out.symm, HB5.out⟩
                      · have h2' : decide (0 ≤ cq) = true := by simp; omega
                        have HF := Lib.hid (HNo.out fun h => hcq9 (by have := h.2.2.1 hk1; rw [← HPp.out] at this; rw [HCQ.out]; exact this))
                        clear hj hb9
                        go_wp2_with fail
                        refine (HCM.out).mono ?_
                        rintro e w' ⟨rfl, rfl⟩
                        clear hsub
                        go_wp2
                        go_ret
                        exact ⟨ret_b HF.out.symm, HB4.out⟩
                  · rw [inB_false.2 hiv] at hWv
                    have HWv := Lib.hid hWv
                    have HF := Lib.hid (HNo.out fun h => hiv (by have := h.2.1; rw [← HPp.out, ← HU.out, ← HV.out] at this; omega))
                    clear hWu hWv
                    go_wp2
                    go_quiet ((go_at_call 59; first | (with_reducible exact quiet_drN (HWu.out _)) | (with_reducible exact quiet_dr (HWu.out _)) | (with_reducible exact quiet_drN (HWv.out _)) | (with_reducible exact quiet_dr (HWv.out _))))
                    go_wp2
                    go_ret
                    exact ⟨ret_b HF.out.symm, below_drewN HB3.out _⟩
                · rw [inB_false.2 hiu] at hWu
                  have HWu := Lib.hid hWu
                  have HF := Lib.hid (HNo.out fun h => hiu (by have := h.2.1; rw [← HPp.out, ← HU.out, ← HV.out] at this; omega))
                  clear hWu hWv
                  go_wp2
                  go_quiet ((go_at_call 59; first | exact quiet_drN (HWu.out _) | exact quiet_dr (HWu.out _)))
                  go_wp2
                  go_ret
                  exact ⟨ret_b HF.out.symm, below_drewN HB3.out _⟩
              · have hd1 : decide (v ≤ u) = true := by simp; omega
                have HF := Lib.hid (HNo.out fun h => h01 (by have := h.2.1; rw [← HPp.out, ← HU.out, ← HV.out] at this; omega))
                clear hWu hWv
                go_wp2
                go_quiet (fail)
                go_wp2
                go_ret
                exact ⟨ret_b HF.out.symm, below_drewN HB3.out _⟩
            · have hd0 : ((L : Int) != 2) = true := by rw [bne_iff_ne]; omega
              have HF := Lib.hid (HNo.out fun h => hl2 (by rw [hL, hp]; exact h.1))
              have hL20 : L ≤ 9223372036854775807 := by have h1 := HRp.out.le; have h2 := HRp.out.cap; unfold maxLen at h2; omega
              clear hp hL hl2
              go_wp2
              go_quiet (fail)
              go_wp2
              go_ret
              exact ⟨ret_b HF.out.symm, below_drewN HB3.out _⟩
          · obtain rfl : i = k := by omega
            have HOn := Lib.hid (rndsOk_succ HOk.out (by rw [← HK.out]; exact HOk2.out))
            have HOm := Lib.hid (HO3.out.cast (show sqTo (metIn (metAll x r) x r i) n5 n5 = sqTo (metAll x (r + 1)) n5 n5 by rw [metAll, ← HK.out]))
            go_wp2
            go_roundw
            case rel => exact ⟨r + 1, by omega, by go_num, HOn, HOm, HB3, hs3⟩
            case measure => simp [intOf]; omega
      · obtain rfl : r = q := by omega
        have HEnd := Lib.hid (show T = decide (allMet x n5) by
          rw [HT.out, schB]
          refine decide_eq_decide.2 ⟨fun h => h.2.2, fun h => ⟨by omega, by rw [HQ.out]; exact HOk.out, h⟩⟩)
        obtain ⟨wo, hwo⟩ : ∃ wo : World, wo = wr := ⟨_, rfl⟩
        subst hwo
        clear hmk
        go_wp2
        go_loopw [120] (fun i wr => ∃ a : Nat, a ≤ n5 ∧ i = .int .i64 a ∧ Hid (∀ a', a' < a → ∀ b, b < n5 → a' < b → metAll x x.length a' b ≠ 0) ∧ wr = wo) (fun i _ => n5 - (intOf i).toNat)
        case atStart => exact ⟨0, Nat.zero_le _, rfl, Lib.hid (fun a' h => absurd h (by omega)), rfl⟩
        case round =>
          obtain ⟨a, ha, rfl, HA, rfl⟩ := hrel
          by_cases hla : a < n5
          · obtain ⟨g, g', eg, er, hlo, hgs, hg1, hg2⟩ := HO.out.own.sq_row (i := a) hla (by omega)
            injection eg with eg
            injection eg with eg
            subst eg
            have hrow := (HO.out.own.rows a (by rw [length_sqTo]; exact hla)).rd
            rw [row_sqTo hla, er] at hrow
            obtain ⟨C, hC⟩ : ∃ C, C = (R5 a).2 := ⟨_, rfl⟩
            rw [← hC] at hg1 hrow
            clear hC
            have hCn : n5 ≤ C := by have := hrow.le; rw [length_rowTo] at this; exact this
            have hrd := hrow.drop (a + 1)
            have hln : ((rowTo (metAll x r) a n5).drop (a + 1)).length = n5 - (a + 1) := by rw [List.length_drop, length_rowTo]
            have HMem := Lib.hid (show hasB ((rowTo (metAll x r) a n5).drop (a + 1)) 0 = true ↔ ∃ b, b < n5 ∧ a < b ∧ metAll x r a b = 0 from by
              rw [hasB_true]
              constructor
              · intro h
                obtain ⟨j, hj, e⟩ := mem_nth.1 h
                rw [hln] at hj
                refine ⟨a + 1 + j, by omega, by omega, ?_⟩
                have : nth ((rowTo (metAll x r) a n5).drop (a + 1)) j = nth (rowTo (metAll x r) a n5) (a + 1 + j) := by simp [nth, List.getElem?_drop]
                rw [this, nth_rowTo (by omega)] at e
                exact e
              · rintro ⟨b, hb, hab, e⟩
                refine mem_nth.2 ⟨b - (a + 1), by rw [hln]; omega, ?_⟩
                have : nth ((rowTo (metAll x r) a n5).drop (a + 1)) (b - (a + 1)) = nth (rowTo (metAll x r) a n5) (a + 1 + (b - (a + 1))) := by simp [nth, List.getElem?_drop]
                rw [this, show a + 1 + (b - (a + 1)) = b by omega, nth_rowTo hb]
                exact e)
            by_cases hcap : C = a + 1
            · have hn0 : n5 = a + 1 := by omega
              have hss : n5 - (a + 1) = 0 := by omega
              have hcc : C - (a + 1) = 0 := by omega
              have hle1 : a + 1 ≤ n5 := by omega
              have hle2 : a + 1 ≤ C := by omega
              have HN0 := Lib.hid hn0
              have HA2 := Lib.hid (show ∀ a', a' < a + 1 → ∀ b, b < n5 → a' < b → metAll x x.length a' b ≠ 0 from fun a' h1 b h2 h3 => HA.out a' (by omega) b h2 h3)
              have hne : hasB [] 0 = false := rfl
              clear hrow hrd hln hg2 er hn0 hcap
              go_wp2_with fail
              refine (contains_c _ _ 0 _ [] 0 ⟨by simp, by unfold maxLen; omega, fun _ h => absurd h (by simp)⟩ rfl).mono ?_
              rintro e w' ⟨rfl, rfl⟩
              rw [hne]
              go_wp2
              go_roundw
              case rel => exact ⟨a + 1, by omega, by go_num, HA2, by first | rfl | trivial⟩
              case measure => simp [intOf]; omega
            · have hcap2 : a + 1 < C := by omega
              have HCt := Lib.hid (contains_c wr (some ⟨g', 0 + (a + 1), none⟩) (n5 - (a + 1)) (C - (a + 1)) ((rowTo (metAll x r) a n5).drop (a + 1)) 0 hrd hln)
              rcases hh : hasB ((rowTo (metAll x r) a n5).drop (a + 1)) 0 with _ | _
              · rw [hh] at HCt
                have HA2 := Lib.hid (show ∀ a', a' < a + 1 → ∀ b, b < n5 → a' < b → metAll x x.length a' b ≠ 0 from fun a' h1 b h2 h3 => by
                  by_cases e : a' = a
                  · subst e
                    intro h4
                    rw [HQ.out] at h4
                    have := HMem.out.2 ⟨b, h2, h3, h4⟩
                    rw [hh] at this
                    cases this
                  · exact HA.out a' (by omega) b h2 h3)
                rw [Nat.zero_add] at HCt
                clear hrow hrd hln hg2 er hh hcap
                go_wp2_with fail
                refine (HCt.out).mono ?_
                rintro e w' ⟨rfl, rfl⟩
                go_wp2
                go_roundw
                case rel => exact ⟨a + 1, by omega, by go_num, HA2, by first | rfl | trivial⟩
                case measure => simp [intOf]; omega
              · rw [hh] at HCt
                have HF := Lib.hid (show T = false by
                  rw [HEnd.out]
                  obtain ⟨b, h1, h2, h3⟩ := HMem.out.1 hh
                  exact decide_eq_false (fun h => h a hla b h1 h2 (by rw [HQ.out]; exact h3)))
                rw [Nat.zero_add] at HCt
                clear hrow hrd hln hg2 er hh hcap
                go_wp2_with fail
                refine (HCt.out).mono ?_
                rintro e w' ⟨rfl, rfl⟩
                go_wp2
                go_ret
                exact ⟨ret_b HF.out.symm, HB.out⟩
          · obtain rfl : a = n5 := by omega
            have HF := Lib.hid (show T = true by
              rw [HEnd.out]
              exact decide_eq_true (fun a' h1 b h2 h3 => HA.out a' h1 b h2 h3))
            go_wp2
            go_ret
            exact ⟨ret_b HF.out.symm, HB.out⟩
  · rw [inB_false.2 hnt] at hT0
    have HT0 := Lib.hid hT0
    have HF := Lib.hid (show T = false by rw [HT.out]; exact decide_eq_false (fun h => hnt h.1))
    clear hT0 hr hq hnt
    go_enter Try.func29, Try.ntmps29
    go_wp2_with fail
    refine (HT0.out).mono ?_
    rintro e w' ⟨rfl, rfl⟩
    go_wp2
    go_ret
    exact ⟨ret_b HF.out.symm, Below.refl _ _⟩
end Go.Proofs.Ytamklliaibfljaa
