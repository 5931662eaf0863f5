/-
  ValidSchedule of the reference. Conditions: those of each theorem.
-/
import Derived.Test.YtamklliaibfljaaSch
namespace Go.Proofs.Ytamklliaibfljaa
open Go.RowKit
set_option linter.unusedVariables false
set_option linter.unusedSimpArgs false

theorem rise2 {p : List Int} {lo hi : Int} (h : p.length = 2) : riseB lo hi p = true ↔ lo ≤ nth p 0 ∧ nth p 0 < nth p 1 ∧ nth p 1 ≤ hi := by
  unfold riseB
  rw [decide_eq_true_eq, h]
  constructor
  · intro hr
    have h0 := hr 0 (by omega)
    have h1 := hr 1 (by omega)
    have h2 := h1.2 (by omega)
    rw [show 1 - 1 = 0 from rfl] at h2
    omega
  · rintro ⟨h1, h2, h3⟩ j hj
    rcases (show j = 0 ∨ j = 1 by omega) with rfl | rfl
    · exact ⟨by omega, fun h => absurd h (by omega)⟩
    · exact ⟨by omega, fun _ => by rw [show 1 - 1 = 0 from rfl]; exact h2⟩

/-- The marks, as one list of flags. -/
def metV (N : Nat) (f : Nat → Nat → Int) : List Bool := (List.range (N * N)).map fun k => decide (f (k / N) (k % N) ≠ 0)
theorem metV_len (N : Nat) (f : Nat → Nat → Int) : (metV N f).length = N * N := by simp [metV]
theorem metV_zero (N : Nat) : metV N (fun _ _ => 0) = List.replicate (N * N) false := by
  apply List.ext_getElem
  · simp [metV]
  · intro k h1 h2; simp [metV]
theorem idx_lt {N a b : Nat} (ha : a < N) (hb : b < N) : a * N + b < N * N := by
  have h1 := Nat.mul_le_mul_right N (show a + 1 ≤ N by omega)
  rw [Nat.succ_mul] at h1
  omega
theorem idx_div {N a b : Nat} (hb : b < N) : (a * N + b) / N = a ∧ (a * N + b) % N = b := by
  constructor
  · rw [Nat.add_comm, Nat.add_mul_div_right _ _ (by omega), Nat.div_eq_of_lt hb, Nat.zero_add]
  · rw [Nat.add_comm, Nat.add_mul_mod_self_right, Nat.mod_eq_of_lt hb]
theorem metV_flag {N a b : Nat} (f : Nat → Nat → Int) (ha : a < N) (hb : b < N) : flag (metV N f) (a * N + b) = decide (f a b ≠ 0) := by
  have h := idx_lt ha hb
  have h2 := idx_div (a := a) hb
  simp [flag, metV, h, h2.1, h2.2]
theorem metV_set {N a b : Nat} (f : Nat → Nat → Int) (ha : a < N) (hb : b < N) : (metV N f).set (a * N + b) true = metV N (upd f a b 1) := by
  apply List.ext_getElem
  · simp [metV]
  · intro k h1 h2
    rw [List.getElem_set]
    simp only [metV, List.getElem_map, List.getElem_range]
    unfold upd
    by_cases e : a * N + b = k
    · subst e
      have h3 := idx_div (a := a) hb
      rw [if_pos rfl, h3.1, h3.2, if_pos ⟨rfl, rfl⟩]
      rfl
    · rw [if_neg e]
      have hk : ¬ (k / N = a ∧ k % N = b) := by
        rintro ⟨h3, h4⟩
        apply e
        have := Nat.div_add_mod k N
        rw [h3, h4, Nat.mul_comm] at this
        exact this
      rw [if_neg hk]


set_option maxRecDepth 100000 in
set_option maxHeartbeats 8000000 in
theorem l14Ok_c (w : World) (n : Int) (hn64 : -9223372036854775808 ≤ n ∧ n ≤ 9223372036854775807) (A : Option Addr) (q c : Nat) (S : Spine3) (x : List (List (List Int))) (hr : RdL w A c S x) (hq : x.length = q) (hz : (q : Int) + (wgt x : Nat) ≤ 1048576) :
    Calls Try.prog 25 #[.int .i64 n, .slice A q c] w (PostV w (.bool (schB n x))) := by
  have hT0 := in_c n 2 32
  obtain ⟨T, hT⟩ : ∃ T, T = schB n x := ⟨_, rfl⟩
  rw [← hT]
  have HT := Lib.hid hT
  clear hT
  by_cases hnt : 2 ≤ n ∧ n ≤ 32
  · rw [inB_true.2 hnt] at hT0
    have HT0 := Lib.hid hT0
    obtain ⟨N, rfl⟩ : ∃ N : Nat, n = (N : Int) := ⟨n.toNat, by omega⟩
    have hN2 : 2 ≤ N := by omega
    have hN32 : N ≤ 32 := by omega
    have hNN : N * N ≤ 1024 := Nat.le_trans (Nat.mul_le_mul hN32 hN32) (by omega)
    obtain ⟨M, hM⟩ : ∃ M, M = N * N := ⟨_, rfl⟩
    rw [← hM] at hNN
    have HM := Lib.hid hM
    have hmul : IntKind.i64.wrap ((N : Int) * (N : Int)) = (M : Int) := by rw [hM, ← Int.natCast_mul]; exact IntWalk.i64_in _ (by omega)
    have hmk := fun W : World => run_make_row' (P := Try.prog) 66 4 (.bool false) 1 Try.underlying66 infoB rfl .i64 .i64 N (by omega) (by omega) W
    have hmk2 := fun W : World => run_make_row' (P := Try.prog) 66 4 (.bool false) 1 Try.underlying66 infoB rfl .i64 .i64 M (by omega) (by omega) W
    have hsubN : IntKind.i64.wrap ((N : Int) - 1) = ((N - 1 : Nat) : Int) := by rw [show (N : Int) - 1 = ((N - 1 : Nat) : Int) by omega]; exact IntWalk.i64_in _ (by omega)
    obtain ⟨N1, hN1⟩ : ∃ N1, N1 = N - 1 := ⟨_, rfl⟩
    rw [← hN1] at hsubN
    have HN1 := Lib.hid (show (N : Int) - 1 = (N1 : Int) by omega)
    have hN1b : N1 ≤ 31 := by omega
    have hKb : N * N1 ≤ 1024 := Nat.le_trans (Nat.mul_le_mul hN32 hN1b) (by omega)
    obtain ⟨K0, hK0⟩ : ∃ K0, K0 = N * N1 := ⟨_, rfl⟩
    rw [← hK0] at hKb
    have hmulK : IntKind.i64.wrap ((N : Int) * (N1 : Int)) = (K0 : Int) := by rw [hK0, ← Int.natCast_mul]; exact IntWalk.i64_in _ (by omega)
    obtain ⟨V0, hV0⟩ : ∃ V0, V0 = (K0 : Int).tdiv 2 := ⟨_, rfl⟩
    have HV0 := Lib.hid (show V0 = ((N : Int) * ((N : Int) - 1)).tdiv 2 by rw [hV0, hK0, hN1, Int.natCast_mul, show ((N - 1 : Nat) : Int) = (N : Int) - 1 by omega])
    have hV1 : 0 ≤ V0 ∧ V0 ≤ 1024 := by rw [hV0, show (K0 : Int).tdiv 2 = (K0 : Int) / 2 from Int.tdiv_eq_ediv_of_nonneg (by omega)]; omega
    have hdivV : (K0 : Int).tdiv 2 = V0 := hV0.symm
    have hP0 := Lib.hid (OwnB.made w M (by unfold maxLen; omega) (Nat.le_refl w.heap.size))
    have HR := Lib.hid hr
    have HQ := Lib.hid hq
    clear hT0 hr hq hM hK0 hN1 hV0
    go_enter Try.func25, Try.ntmps25
    go_wp2_with fail
    refine (HT0.out _).mono ?_
    rintro e w' ⟨rfl, rfl⟩
    go_wp2
    have HO0 := Lib.hid (show OwnB (w.alloc (.cells (madeCells #[.bool false] M) 4)) w.heap.size w.heap.size M (metV N (metAll x 0)) by
      rw [show metV N (metAll x 0) = List.replicate M false by rw [HM.out]; exact metV_zero N]; exact hP0.out)
    have HB0 := Lib.hid (below_boxed w (.cells (madeCells #[.bool false] M) 4))
    clear hP0
    obtain ⟨gm, hgm⟩ : ∃ gm, gm = w.heap.size := ⟨_, rfl⟩
    have hgl : w.heap.size ≤ gm := by omega
    have hs0 : gm + 1 ≤ (w.alloc (.cells (madeCells #[.bool false] M) 4)).heap.size := by simp; omega
    have HO1 := Lib.hid (show OwnB (w.alloc (.cells (madeCells #[.bool false] M) 4)) w.heap.size gm M (metV N (metAll x 0)) by rw [hgm]; exact HO0.out)
    rw [← hgm]
    clear hgm HO0 hmk2
    generalize (w.alloc (.cells (madeCells #[.bool false] M) 4)) = w1 at *
    go_loopw [6, 7] (fun mo i wr => ∃ r : Nat, r ≤ q ∧ i = .int .i64 r ∧ mo = .int .i64 (cntR x r : Nat) ∧ Hid (rndsOk (N : Int) x r) ∧ Hid (OwnB wr w.heap.size gm M (metV N (metAll x r))) ∧ Hid (Below w.heap.size w wr) ∧ gm + 1 ≤ wr.heap.size) (fun _ i _ => q - (intOf i).toNat)
    case atStart => exact ⟨0, Nat.zero_le _, rfl, rfl, Lib.hid (fun r hr => absurd hr (by omega)), HO1, HB0, hs0⟩
    case round =>
      obtain ⟨r, hrq, rfl, rfl, HOk, HO, HB, hs⟩ := hrel
      by_cases hlr : r < q
      · have hrx : r < x.length := by rw [HQ.out]; exact hlr
        obtain ⟨b, off, e, hb, hc⟩ := HR.out.at_ r hrx
        subst e
        obtain ⟨k, hk⟩ : ∃ k, k = (pln x r).length := ⟨_, rfl⟩
        rw [← hk] at hc
        have HCc := Lib.hid hc
        have HK := Lib.hid hk
        have HPr := Lib.hid (HR.out.rows r hrx)
        have hcb : cntR x r + k ≤ 1048576 := by
          have h1 := cntR_le x (r + 1) (by omega)
          rw [cntR, ← hk] at h1
          omega
        have HB2 := Lib.hid (HB.out.alloc (by omega) (.cells (madeCells #[.bool false] N) 4))
        have HO2 := Lib.hid (HO.out.alloc (.cells (madeCells #[.bool false] N) 4))
        have HP0 := Lib.hid (show OwnB (wr.alloc (.cells (madeCells #[.bool false] N) 4)) (gm + 1) wr.heap.size N (bsyL N x r 0) by rw [bsyL_zero]; exact OwnB.made wr N (by unfold maxLen; omega) hs)
        obtain ⟨cr, hcr⟩ : ∃ cr, cr = cntR x r := ⟨_, rfl⟩
        rw [← hcr] at hcb ⊢
        have HCr := Lib.hid hcr
        have hrI0 : (0 : Int) ≤ (r : Int) := by omega
        have hrI1 : (r : Int) < (q : Int) := by omega
        clear hc hk hcr
        go_wp2
        obtain ⟨g8, hg8⟩ : ∃ g8, g8 = wr.heap.size := ⟨_, rfl⟩
        have hgs : gm + 1 ≤ g8 := by omega
        rw [← hg8] at HP0 ⊢
        clear hg8
        have hs2 : gm + 1 ≤ (wr.alloc (.cells (madeCells #[.bool false] N) 4)).heap.size := by simp; omega
        generalize (wr.alloc (.cells (madeCells #[.bool false] N) 4)) = w2 at *
        go_loopw [6, 9] (fun mo i wr => ∃ i0 : Nat, i0 ≤ k ∧ i = .int .i64 i0 ∧ mo = .int .i64 ((cr : Int) + i0) ∧ Hid (rndOk (N : Int) x r i0) ∧ Hid (OwnB wr w.heap.size gm M (metV N (metIn (metAll x r) x r i0))) ∧ Hid (OwnB wr (gm + 1) g8 N (bsyL N x r i0)) ∧ Hid (Below w.heap.size w wr) ∧ gm + 1 ≤ wr.heap.size) (fun _ i _ => k - (intOf i).toNat)
        case atStart => exact ⟨0, Nat.zero_le _, rfl, by simp, Lib.hid (fun i hi => absurd hi (by omega)), HO2, HP0, HB2, hs2⟩
        case round =>
          obtain ⟨i, hi, rfl, rfl, HOk2, HO3, HP, HB3, hs3⟩ := hrel
          have hcc := (HB3.out.cell (p := ⟨b, off + r, none⟩) hb).trans HCc.out
          by_cases hlk : i < k
          · have hix : i < (pln x r).length := by rw [← HK.out]; exact hlk
            obtain ⟨b1, o1, e1, hb1, hc1⟩ := HPr.out.at_ i hix
            have hcc1 := (HB3.out.cell (p := ⟨b1, o1 + i, none⟩) hb1).trans hc1
            have HNo := Lib.hid (show ¬ pairOk (N : Int) x r i → T = false from fun h => by rw [HT.out]; exact decide_eq_false (fun hh => h (hh.2.1 r hrx i hix)))
            obtain ⟨p, hp⟩ : ∃ p, p = pr x r i := ⟨_, rfl⟩
            have hrp := HPr.out.rows i hix
            rw [show row (pln x r) i = p from hp.symm] at hcc1 hrp
            have HPp := Lib.hid hp
            have HRp := Lib.hid hrp
            obtain ⟨L, hL⟩ : ∃ L, L = p.length := ⟨_, rfl⟩
            rw [← hL] at hcc1
            rw [e1] at hcc
            have hiI0 : (0 : Int) ≤ (i : Int) := by omega
            have hiI1 : (i : Int) < (k : Int) := by omega
            clear hc1 hrp
            by_cases hl2 : L = 2
            · subst hl2
              have HL := Lib.hid hL
              have hRis := rises_c wr ((S r).2.2 i).1 2 ((S r).2.2 i).2 p 0 (N1 : Int) (HRp.out.keep HB3.out.size fun _ hp => HB3.out.cell hp) hL.symm
              have hR2 := rise2 (lo := 0) (hi := (N1 : Int)) hL.symm
              rcases hris : riseB 0 (N1 : Int) p with _ | _
              · rw [hris] at hRis
                have HRis := Lib.hid hRis
                have HF := Lib.hid (HNo.out fun h => by
                  have h1 := h.2.1
                  rw [← HPp.out, HN1.out] at h1
                  have := hR2.2 ⟨h1.1, h1.2.1, h1.2.2⟩
                  rw [hris] at this
                  cases this)
                clear hRis hR2 hris hL hp
                go_wp2_with fail
                refine (HRis.out).mono ?_
                rintro e w' ⟨rfl, mq, rfl⟩
                go_wp2
                go_ret
                exact ⟨ret_b HF.out.symm, below_drewN HB3.out _⟩
              · rw [hris] at hRis
                obtain ⟨h01, h02, h03⟩ := hR2.1 hris
                obtain ⟨b2, o2, e2, hb2, hd0⟩ := HRp.out.at_ 0 (by omega)
                obtain ⟨b3, o3, e3, hb3, hd1⟩ := HRp.out.at_ 1 (by omega)
                rw [e2] at e3
                injection e3 with e3
                injection e3 with e3 e4
                subst e3 e4
                rw [Nat.add_zero] at hd0
                obtain ⟨a, ha⟩ : ∃ a : Nat, nth p 0 = (a : Int) := ⟨(nth p 0).toNat, by omega⟩
                obtain ⟨bb, hbb0⟩ : ∃ bb : Nat, nth p 1 = (bb : Int) := ⟨(nth p 1).toNat, by omega⟩
                rw [ha] at hd0 h01 h02
                rw [hbb0] at hd1 h02 h03
                have HU := Lib.hid ha.symm
                have HV := Lib.hid hbb0.symm
                have hab : a < bb := by omega
                have hbN : bb < N := by have := HN1.out; omega
                have haN : a < N := by omega
                have ha0 : (0 : Int) ≤ (a : Int) := by omega
                have ha1 : (a : Int) < (N : Int) := by omega
                have hb0 : (0 : Int) ≤ (bb : Int) := by omega
                have hb1' : (bb : Int) < (N : Int) := by omega
                have HA := Lib.hid (show pA x r i = a by unfold pA; rw [← HPp.out, ha]; rfl)
                have HBb := Lib.hid (show pB x r i = bb by unfold pB; rw [← HPp.out, hbb0]; rfl)
                obtain ⟨d, hd⟩ : ∃ d, d = a * N + bb := ⟨_, rfl⟩
                obtain ⟨e0, he0⟩ : ∃ e0, e0 = a * N := ⟨_, rfl⟩
                have hdM : d < M := by rw [hd, HM.out]; exact idx_lt haN hbN
                have HDd := Lib.hid hd
                have hw1 : IntKind.i64.wrap ((a : Int) * (N : Int)) = (e0 : Int) := by rw [he0, ← Int.natCast_mul]; exact IntWalk.i64_in _ (by omega)
                have hw2 : IntKind.i64.wrap ((e0 : Int) + (bb : Int)) = (d : Int) := by rw [show (e0 : Int) + (bb : Int) = (d : Int) by omega]; exact IntWalk.i64_in _ (by omega)
                have hdI0 : (0 : Int) ≤ (d : Int) := by omega
                have hdI1 : (d : Int) < (M : Int) := by omega
                rw [e2] at hRis hcc1
                have HRis := Lib.hid hRis
                have E1 := Lib.hid e1
                have E2 := Lib.hid e2
                clear hRis hR2 hris hL hp ha hbb0 hd he0 h01 h02 h03 e1 e2 hlk hix
                have hcmp0 := hcc
                clear hcmp0
                by_cases hi0 : i = 0
                · have HCmp := Lib.hid (show 0 < i → cmpL (pr x r (i - 1)) p < 0 from fun h => absurd h (by omega))
                  have hk0 : decide (0 < (i : Int)) = false := by simp; omega
                  have hk0' : decide (0 < i) = false := by simp; omega
                  clear hi0
                  go_wp2_with fail
                  refine (HRis.out).mono ?_
                  rintro e w' ⟨rfl, mq, rfl⟩
                  have HO4 := Lib.hid (HO3.out.drewN mq)
                  have HP4 := Lib.hid (HP.out.drewN mq)
                  have HB4 := Lib.hid (below_drewN HB3.out mq)
                  have hs4 : gm + 1 ≤ (wr.drewN mq).heap.size := hs3
                  have hr0 := (HB4.out.cell (p := ⟨b2, o2, none⟩) hb2).trans hd0
                  have hr1 := (HB4.out.cell (p := ⟨b2, o2 + 1, none⟩) hb2).trans hd1
                  clear hcc hcc1 hd0 hd1
                  generalize wr.drewN mq = w4 at *
                  go_wp2
                  obtain ⟨hpa, hfa⟩ := HP4.out.at_ (k := a) haN
                  obtain ⟨hpb, hfb⟩ := HP4.out.at_ (k := bb) hbN
                  rw [bsyL_flag haN] at hpa
                  rw [bsyL_flag hbN] at hpb
                  obtain ⟨hmd, hmf⟩ := HO4.out.at_ (k := d) hdM
                  rw [show flag (metV N (metIn (metAll x r) x r i)) d = decide (metIn (metAll x r) x r i a bb ≠ 0) by rw [HDd.out]; exact metV_flag _ haN hbN] at hmd
                  rcases hba : bsy x r i a with _ | _
                  · rw [hba] at hpa
                    rcases hbb : bsy x r i bb with _ | _
                    · rw [hbb] at hpb
                      by_cases hz9 : metIn (metAll x r) x r i a bb = 0
                      · rw [show decide (metIn (metAll x r) x r i a bb ≠ 0) = false by simp [hz9]] at hmd
                        have HOkk := Lib.hid (rndOk_succ HOk2.out (show pairOk (N : Int) x r i from ⟨by rw [← HPp.out, ← HL.out], by rw [← HPp.out, ← HU.out, ← HV.out]; omega, by rw [← HPp.out]; exact HCmp.out, by rw [HA.out, HBb.out]; exact ⟨hba, hbb, hz9⟩⟩))
                        clear hz9 hba hbb
                        go_wp2
                        go_quiet (fail)
                        have HO5 := Lib.hid (HO4.out.drewN nq)
                        have HP5 := Lib.hid (HP4.out.drewN nq)
                        have HB5 := Lib.hid (below_drewN HB4.out nq)
                        have hs5 : gm + 1 ≤ (w4.drewN nq).heap.size := hs4
                        have hv0 : (w4.drewN nq).cell? ⟨b2, o2, none⟩ = some (.int .i64 (a : Int)) := hr0
                        have hv1 : (w4.drewN nq).cell? ⟨b2, o2 + 1, none⟩ = some (.int .i64 (bb : Int)) := hr1
                        clear hr0 hr1 hpa hfa hpb hfb hmd hmf
                        generalize w4.drewN nq = w5 at *
                        obtain ⟨hpa, hfa⟩ := HP5.out.at_ (k := a) haN
                        obtain ⟨hpb, hfb⟩ := HP5.out.at_ (k := bb) hbN
                        obtain ⟨hmd, hmf⟩ := HO5.out.at_ (k := d) hdM
                        have hoth : ∀ (W : World) (j j2 : Nat) (b9 : Nat) (v : Value), b9 < g8 → (W.setCell ⟨g8, j, none⟩ v).cell? ⟨b9, j2, none⟩ = W.cell? ⟨b9, j2, none⟩ := fun W j j2 b9 v h => World.cell?_setCell_other _ _ _ _ (by intro e'; injection e' with e1 e2; omega)
                        have hb2g : b2 < g8 := by omega
                        have hgmg : gm < g8 := by omega
                        have hv1a := (hoth w5 a (o2 + 1) b2 (.bool true) hb2g).trans hv1
                        have hpb2 := ((HP5.out.stored a true).at_ (k := bb) hbN)
                        obtain ⟨hpb3, hfb3⟩ := hpb2
                        have hv0b := (hoth (w5.setCell ⟨g8, a, none⟩ (.bool true)) bb o2 b2 (.bool true) hb2g).trans ((hoth w5 a o2 b2 (.bool true) hb2g).trans hv0)
                        have hv1b := (hoth (w5.setCell ⟨g8, a, none⟩ (.bool true)) bb (o2 + 1) b2 (.bool true) hb2g).trans hv1a
                        have hO6 := (HO5.out.setCell_other (p := ⟨g8, a, none⟩) (by show gm ≠ g8; omega) (.bool true)).setCell_other (p := ⟨g8, bb, none⟩) (by show gm ≠ g8; omega) (.bool true)
                        have HO6 := Lib.hid hO6
                        have hP6 := (HP5.out.stored a true).stored bb true
                        rw [show ((bsyL N x r i).set a true).set bb true = bsyL N x r (i + 1) by rw [← bsyL_set, HA.out, HBb.out]] at hP6
                        have HP6 := Lib.hid hP6
                        have HB6 := Lib.hid ((HB5.out.setCell (p := ⟨g8, a, none⟩) (by show w.heap.size ≤ g8; omega) (.bool true)).setCell (p := ⟨g8, bb, none⟩) (by show w.heap.size ≤ g8; omega) (.bool true))
                        clear hO6 hP6 hoth
                        go_wp2
                        clear hpa hfa hpb hfb hmd hmf hv1a hpb3 hfb3 hv0 hv1
                        have hs6 : gm + 1 ≤ ((w5.setCell ⟨g8, a, none⟩ (.bool true)).setCell ⟨g8, bb, none⟩ (.bool true)).heap.size := by first | exact hs5 | simpa [World.setCell] using hs5
                        generalize (w5.setCell ⟨g8, a, none⟩ (.bool true)).setCell ⟨g8, bb, none⟩ (.bool true) = w6 at *
                        obtain ⟨hmd, hmf⟩ := HO6.out.at_ (k := d) hdM
                        have hst := HO6.out.stored d true
                        rw [show (metV N (metIn (metAll x r) x r i)).set d true = metV N (metIn (metAll x r) x r (i + 1)) by rw [HDd.out, metV_set _ haN hbN, metIn, HA.out, HBb.out]] at hst
                        have HO7 := Lib.hid hst
                        have HP7 := Lib.hid (HP6.out.setCell_other (p := ⟨gm, d, none⟩) (by show g8 ≠ gm; omega) (.bool true))
                        have HB7 := Lib.hid (HB6.out.setCell (p := ⟨gm, d, none⟩) (by show w.heap.size ≤ gm; omega) (.bool true))
                        clear hst
                        go_region
                        all_goals go_wp2
                        all_goals go_roundw
                        case rel => first | exact ⟨i + 1, by omega, by go_num, by go_num, HOkk, HO7, HP7, HB7, by first | exact hs6 | simpa [World.setCell] using hs6⟩ | exact ⟨i + 1, by omega, by go_num, by go_num, HOkk, Lib.hid (HO7.out.drewN 1), Lib.hid (HP7.out.drewN 1), Lib.hid (below_drewN HB7.out 1), by first | exact hs6 | simpa [World.setCell] using hs6⟩
                        case measure => simp [intOf]; omega
                      · rw [show decide (metIn (metAll x r) x r i a bb ≠ 0) = true by simp [hz9]] at hmd
                        have HF := Lib.hid (HNo.out fun h => hz9 (by have := h.2.2.2.2.2; rw [HA.out, HBb.out] at this; exact this))
                        clear hz9 hba hbb
                        go_wp2
                        go_quiet (fail)
                        go_wp2
                        go_ret
                        exact ⟨ret_b HF.out.symm, below_drewN HB4.out _⟩
                    · rw [hbb] at hpb
                      have HF := Lib.hid (HNo.out fun h => by have := h.2.2.2.2.1; rw [HBb.out, hbb] at this; cases this)
                      clear hba hbb
                      go_wp2
                      go_quiet (fail)
                      go_wp2
                      go_ret
                      exact ⟨ret_b HF.out.symm, below_drewN HB4.out _⟩
                  · rw [hba] at hpa
                    have HF := Lib.hid (HNo.out fun h => by have := h.2.2.2.1; rw [HA.out, hba] at this; cases this)
                    clear hba
                    go_wp2
                    go_quiet (fail)
                    go_wp2
                    go_ret
                    exact ⟨ret_b HF.out.symm, below_drewN HB4.out _⟩
                · obtain ⟨b9, o9, e9, hb9, hc9⟩ := HPr.out.at_ (i - 1) (by have := HK.out; omega)
                  rw [E1.out] at e9
                  injection e9 with e9
                  injection e9 with e9 e10
                  subst e9 e10
                  have hcc9 := (HB3.out.cell (p := ⟨b1, o1 + (i - 1), none⟩) hb9).trans hc9
                  have hk0 : decide (0 < (i : Int)) = true := by simp; omega
                  have hk2 : decide (0 < i) = true := decide_eq_true (by omega)
                  have hk0' : (0 : Int) < (i : Int) := by omega
                  have hk1 : 0 < i := by omega
                  have hcmp := fun m => CompareLists_c (wr.drewN m) ((S r).2.2 (i - 1)).1 (some ⟨b2, o2, none⟩) (row (pln x r) (i - 1)).length 2 ((S r).2.2 (i - 1)).2 ((S r).2.2 i).2 (row (pln x r) (i - 1)) p (((HPr.out.rows (i - 1) (by have := HK.out; omega)).keep HB3.out.size fun _ hp => HB3.out.cell hp).drewN m) rfl (by rw [← E2.out]; exact (HRp.out.keep HB3.out.size fun _ hp => HB3.out.cell hp).drewN m) HL.out.symm
                  have hbd := cmpL_bd (row (pln x r) (i - 1)) p
                  have hsub : IntKind.i64.wrap ((i : Int) - 1) = ((i - 1 : Nat) : Int) := by rw [show (i : Int) - 1 = ((i - 1 : Nat) : Int) by omega]; exact IntWalk.i64_in _ (by omega)
                  have hs0 : (0 : Int) ≤ ((i - 1 : Nat) : Int) := by omega
                  have hs1' : ((i - 1 : Nat) : Int) < (k : Int) := by omega
                  obtain ⟨cq, hcq⟩ : ∃ cq, cq = cmpL (row (pln x r) (i - 1)) p := ⟨_, rfl⟩
                  rw [← hcq] at hcmp hbd
                  have HCQ := Lib.hid hcq
                  have HCM := Lib.hid hcmp
                  obtain ⟨Lq, hLq⟩ : ∃ Lq, Lq = (row (pln x r) (i - 1)).length := ⟨_, rfl⟩
                  rw [← hLq] at hcc9 HCM
                  clear hcq hcmp hc9 hLq hi0
                  generalize hj : i - 1 = j at hsub hs0 hs1' hcc9 HCM
                  have HJ := Lib.hid hj
                  clear hj hb9
                  have hq9 := fun m => show (wr.drewN m).cell? ⟨b1, o1 + j, none⟩ = some (.slice ((S r).2.2 j).1 Lq ((S r).2.2 j).2) from hcc9
                  have hq8 := fun m => show (wr.drewN m).cell? ⟨b, off + r, none⟩ = some (.slice (some ⟨b1, o1, none⟩) k (S r).2.1) from hcc
                  by_cases hcq9 : cq < 0
                  · have h2' : decide (0 ≤ cq) = false := by simp; omega
                    have HCmp := Lib.hid (show 0 < i → cmpL (pr x r (i - 1)) p < 0 from fun _ => by show cmpL (row (pln x r) (i - 1)) p < 0; rw [← HCQ.out]; exact hcq9)
                    go_wp2_with fail
                    refine (HRis.out).mono ?_
                    rintro e w' ⟨rfl, mq, rfl⟩
                    have hq9' := hq9 mq
                    have hq8' := hq8 mq
                    go_wp2_with fail
                    refine (HCM.out _).mono ?_
                    rintro e w' ⟨rfl, mq2, rfl⟩
                    rw [World.drewN_drewN]
                    clear hq9' hq8'
                    have HO4 := Lib.hid (HO3.out.drewN (mq + mq2))
                    have HP4 := Lib.hid (HP.out.drewN (mq + mq2))
                    have HB4 := Lib.hid (below_drewN HB3.out (mq + mq2))
                    have hs4 : gm + 1 ≤ (wr.drewN (mq + mq2)).heap.size := hs3
                    have hr0 := (HB4.out.cell (p := ⟨b2, o2, none⟩) hb2).trans hd0
                    have hr1 := (HB4.out.cell (p := ⟨b2, o2 + 1, none⟩) hb2).trans hd1
                    clear hcc hcc1 hd0 hd1 hq9 hq8 hsub hcc9
                    generalize wr.drewN (mq + mq2) = w4 at *
                    go_wp2
                    obtain ⟨hpa, hfa⟩ := HP4.out.at_ (k := a) haN
                    obtain ⟨hpb, hfb⟩ := HP4.out.at_ (k := bb) hbN
                    rw [bsyL_flag haN] at hpa
                    rw [bsyL_flag hbN] at hpb
                    obtain ⟨hmd, hmf⟩ := HO4.out.at_ (k := d) hdM
                    rw [show flag (metV N (metIn (metAll x r) x r i)) d = decide (metIn (metAll x r) x r i a bb ≠ 0) by rw [HDd.out]; exact metV_flag _ haN hbN] at hmd
                    rcases hba : bsy x r i a with _ | _
                    · rw [hba] at hpa
                      rcases hbb : bsy x r i bb with _ | _
                      · rw [hbb] at hpb
                        by_cases hz9 : metIn (metAll x r) x r i a bb = 0
                        · rw [show decide (metIn (metAll x r) x r i a bb ≠ 0) = false by simp [hz9]] at hmd
                          have HOkk := Lib.hid (rndOk_succ HOk2.out (show pairOk (N : Int) x r i from ⟨by rw [← HPp.out, ← HL.out], by rw [← HPp.out, ← HU.out, ← HV.out]; omega, by rw [← HPp.out]; exact HCmp.out, by rw [HA.out, HBb.out]; exact ⟨hba, hbb, hz9⟩⟩))
                          clear hz9 hba hbb
                          go_wp2
                          go_quiet (fail)
                          have HO5 := Lib.hid (HO4.out.drewN nq)
                          have HP5 := Lib.hid (HP4.out.drewN nq)
                          have HB5 := Lib.hid (below_drewN HB4.out nq)
                          have hs5 : gm + 1 ≤ (w4.drewN nq).heap.size := hs4
                          have hv0 : (w4.drewN nq).cell? ⟨b2, o2, none⟩ = some (.int .i64 (a : Int)) := hr0
                          have hv1 : (w4.drewN nq).cell? ⟨b2, o2 + 1, none⟩ = some (.int .i64 (bb : Int)) := hr1
                          clear hr0 hr1 hpa hfa hpb hfb hmd hmf
                          generalize w4.drewN nq = w5 at *
                          obtain ⟨hpa, hfa⟩ := HP5.out.at_ (k := a) haN
                          obtain ⟨hpb, hfb⟩ := HP5.out.at_ (k := bb) hbN
                          obtain ⟨hmd, hmf⟩ := HO5.out.at_ (k := d) hdM
                          have hoth : ∀ (W : World) (j j2 : Nat) (b9 : Nat) (v : Value), b9 < g8 → (W.setCell ⟨g8, j, none⟩ v).cell? ⟨b9, j2, none⟩ = W.cell? ⟨b9, j2, none⟩ := fun W j j2 b9 v h => World.cell?_setCell_other _ _ _ _ (by intro e'; injection e' with e1 e2; omega)
                          have hb2g : b2 < g8 := by omega
                          have hgmg : gm < g8 := by omega
                          have hv1a := (hoth w5 a (o2 + 1) b2 (.bool true) hb2g).trans hv1
                          have hpb2 := ((HP5.out.stored a true).at_ (k := bb) hbN)
                          obtain ⟨hpb3, hfb3⟩ := hpb2
                          have hv0b := (hoth (w5.setCell ⟨g8, a, none⟩ (.bool true)) bb o2 b2 (.bool true) hb2g).trans ((hoth w5 a o2 b2 (.bool true) hb2g).trans hv0)
                          have hv1b := (hoth (w5.setCell ⟨g8, a, none⟩ (.bool true)) bb (o2 + 1) b2 (.bool true) hb2g).trans hv1a
                          have hO6 := (HO5.out.setCell_other (p := ⟨g8, a, none⟩) (by show gm ≠ g8; omega) (.bool true)).setCell_other (p := ⟨g8, bb, none⟩) (by show gm ≠ g8; omega) (.bool true)
                          have HO6 := Lib.hid hO6
                          have hP6 := (HP5.out.stored a true).stored bb true
                          rw [show ((bsyL N x r i).set a true).set bb true = bsyL N x r (i + 1) by rw [← bsyL_set, HA.out, HBb.out]] at hP6
                          have HP6 := Lib.hid hP6
                          have HB6 := Lib.hid ((HB5.out.setCell (p := ⟨g8, a, none⟩) (by show w.heap.size ≤ g8; omega) (.bool true)).setCell (p := ⟨g8, bb, none⟩) (by show w.heap.size ≤ g8; omega) (.bool true))
                          clear hO6 hP6 hoth
                          go_wp2
                          clear hpa hfa hpb hfb hmd hmf hv1a hpb3 hfb3 hv0 hv1
                          have hs6 : gm + 1 ≤ ((w5.setCell ⟨g8, a, none⟩ (.bool true)).setCell ⟨g8, bb, none⟩ (.bool true)).heap.size := by first | exact hs5 | simpa [World.setCell] using hs5
                          generalize (w5.setCell ⟨g8, a, none⟩ (.bool true)).setCell ⟨g8, bb, none⟩ (.bool true) = w6 at *
                          obtain ⟨hmd, hmf⟩ := HO6.out.at_ (k := d) hdM
                          have hst := HO6.out.stored d true
                          rw [show (metV N (metIn (metAll x r) x r i)).set d true = metV N (metIn (metAll x r) x r (i + 1)) by rw [HDd.out, metV_set _ haN hbN, metIn, HA.out, HBb.out]] at hst
                          have HO7 := Lib.hid hst
                          have HP7 := Lib.hid (HP6.out.setCell_other (p := ⟨gm, d, none⟩) (by show g8 ≠ gm; omega) (.bool true))
                          have HB7 := Lib.hid (HB6.out.setCell (p := ⟨gm, d, none⟩) (by show w.heap.size ≤ gm; omega) (.bool true))
                          clear hst
                          go_region
                          all_goals go_wp2
                          all_goals go_roundw
                          case rel => first | exact ⟨i + 1, by omega, by go_num, by go_num, HOkk, HO7, HP7, HB7, by first | exact hs6 | simpa [World.setCell] using hs6⟩ | exact ⟨i + 1, by omega, by go_num, by go_num, HOkk, Lib.hid (HO7.out.drewN 1), Lib.hid (HP7.out.drewN 1), Lib.hid (below_drewN HB7.out 1), by first | exact hs6 | simpa [World.setCell] using hs6⟩
                          case measure => simp [intOf]; omega
                        · rw [show decide (metIn (metAll x r) x r i a bb ≠ 0) = true by simp [hz9]] at hmd
                          have HF := Lib.hid (HNo.out fun h => hz9 (by have := h.2.2.2.2.2; rw [HA.out, HBb.out] at this; exact this))
                          clear hz9 hba hbb
                          go_wp2
                          go_quiet (fail)
                          go_wp2
                          go_ret
                          exact ⟨ret_b HF.out.symm, below_drewN HB4.out _⟩
                      · rw [hbb] at hpb
                        have HF := Lib.hid (HNo.out fun h => by have := h.2.2.2.2.1; rw [HBb.out, hbb] at this; cases this)
                        clear hba hbb
                        go_wp2
                        go_quiet (fail)
                        go_wp2
                        go_ret
                        exact ⟨ret_b HF.out.symm, below_drewN HB4.out _⟩
                    · rw [hba] at hpa
                      have HF := Lib.hid (HNo.out fun h => by have := h.2.2.2.1; rw [HA.out, hba] at this; cases this)
                      clear hba
                      go_wp2
                      go_quiet (fail)
                      go_wp2
                      go_ret
                      exact ⟨ret_b HF.out.symm, below_drewN HB4.out _⟩
                  · have h2' : decide (0 ≤ cq) = true := by simp; omega
                    have HF := Lib.hid (HNo.out fun h => hcq9 (by have := h.2.2.1 hk1; rw [← HPp.out] at this; rw [HCQ.out]; exact this))
                    go_wp2_with fail
                    refine (HRis.out).mono ?_
                    rintro e w' ⟨rfl, mq, rfl⟩
                    have hq9' := hq9 mq
                    have hq8' := hq8 mq
                    go_wp2_with fail
                    refine (HCM.out _).mono ?_
                    rintro e w' ⟨rfl, mq2, rfl⟩
                    rw [World.drewN_drewN]
                    go_wp2
                    go_ret
                    exact ⟨ret_b HF.out.symm, below_drewN HB3.out _⟩
            · have hd0 : ((L : Int) != 2) = true := by rw [bne_iff_ne]; omega
              have HF := Lib.hid (HNo.out fun h => hl2 (by rw [hL, hp]; exact h.1))
              have hL20 : L ≤ 9223372036854775807 := by have h1 := HRp.out.le; have h2 := HRp.out.cap; unfold maxLen at h2; omega
              clear hp hL hl2
              go_wp2
              go_ret
              exact ⟨ret_b HF.out.symm, HB3.out⟩
          · obtain rfl : i = k := by omega
            have HOn := Lib.hid (rndsOk_succ HOk.out (by rw [← HK.out]; exact HOk2.out))
            have HOm := Lib.hid (show OwnB wr w.heap.size gm M (metV N (metAll x (r + 1))) by rw [metAll, ← HK.out]; exact HO3.out)
            have HCn := Lib.hid (show (cr : Int) + i = ((cntR x (r + 1) : Nat) : Int) by rw [cntR, ← HK.out, HCr.out]; omega)
            go_wp2
            go_roundw
            case rel => exact ⟨r + 1, by omega, by go_num, by rw [HCn.out], HOn, HOm, HB3, hs3⟩
            case measure => simp [intOf]; omega
      · obtain rfl : r = q := by omega
        have HEnd := Lib.hid (show T = (((cntR x r : Nat) : Int) == V0) by
          rw [HT.out, schB]
          have h1 := cnt_allMet (n := (N : Int)) (by omega) (by rw [HQ.out]; exact HOk.out)
          rw [HQ.out, ← HV0.out] at h1
          rw [Bool.eq_iff_iff, decide_eq_true_eq, beq_iff_eq, h1]
          exact ⟨fun h => h.2.2, fun h => ⟨by omega, by rw [HQ.out]; exact HOk.out, h⟩⟩)
        have hcb : cntR x r ≤ 1048576 := by have := cntR_le x r (by rw [HQ.out]; exact Nat.le_refl _); omega
        generalize cntR x r = cr at *
        go_wp2
        go_ret
        exact ⟨ret_b HEnd.out.symm, HB.out⟩
  · rw [inB_false.2 hnt] at hT0
    have HT0 := Lib.hid hT0
    have HF := Lib.hid (show T = false by rw [HT.out]; exact decide_eq_false (fun h => hnt h.1))
    clear hT0 hr hq hnt
    go_enter Try.func25, Try.ntmps25
    go_wp2_with fail
    refine (HT0.out _).mono ?_
    rintro e w' ⟨rfl, rfl⟩
    go_wp2
    go_ret
    exact ⟨ret_b HF.out.symm, Below.refl _ _⟩

end Go.Proofs.Ytamklliaibfljaa
