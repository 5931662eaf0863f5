/-
  ProfileOf: the walk of the reference. Conditions: those of each theorem.
-/
import Derived.Test.YtnpbkkglnbobaaaProf
namespace Go.Proofs.Ytnpbkkglnbobaaa
open Go.RowKit
set_option linter.unusedVariables false
set_option linter.unusedSimpArgs false

noncomputable def pfL (h : List (List Int)) : List Int := if validB h = true ∧ h.length ≤ 16 then quA (pfF h h.length) h.length (List.replicate (h.length + 1) 0) else []
noncomputable def pfC (h : List (List Int)) : Int := if validB h = true then (if h.length ≤ 16 then 0 else 5) else 1

theorem pf_row {w wd : World} {b1 o1 c : Nat} {R : Spine} {h : List (List Int)} (hr : RdM w (some ⟨b1, o1, none⟩) c R h) (hB : Below w.heap.size w wd) {x k n : Nat} (hx : x < h.length) (hl : (row h x).length = n) (hk : k < n) :
    ∃ b2 o2 C, wd.cell? ⟨b1, o1 + x, none⟩ = some (.slice (some ⟨b2, o2, none⟩) n C) ∧ wd.cell? ⟨b2, o2 + k, none⟩ = some (.int .i64 (nth (row h x) k)) := by
  obtain ⟨b, off, e, hb, hc⟩ := hr.at_ x hx
  injection e with e
  injection e with e1 e2
  subst e1 e2
  have hrd := hr.rows x hx
  obtain ⟨b2, o2, e3, hb2, hc2⟩ := hrd.at_ k (by rw [hl]; exact hk)
  rw [e3, hl] at hc
  exact ⟨b2, o2, _, (hB.cell (p := ⟨b1, o1 + x, none⟩) hb).trans hc, (hB.cell (p := ⟨b2, o2 + k, none⟩) hb2).trans hc2⟩

set_option maxRecDepth 100000 in
set_option maxHeartbeats 4000000 in
theorem specProfileOf_c (w : World) (A : Option Addr) (n c : Nat) (R : Spine) (h : List (List Int)) (hr : RdM w A c R h) (hn : h.length = n) (hw : WfM h) (hz : (n : Int) + (tot h : Nat) ≤ 1048576) :
    Calls Try.prog 21 #[.slice A n c] w (PostSC w (pfL h) (pfC h)) := by
  have hO := l15Ok_c w A n c R h hr hn
  clear hw hz
  rcases hv : validB h with _ | _
  · rw [hv] at hO
    rw [show pfL h = [] by simp [pfL, hv], show pfC h = 1 by simp [pfC, hv]]
    have HO := Lib.hid hO
    clear hO hv hr hn
    go_enter Try.func21, Try.ntmps21
    go_wp2_with fail
    refine (HO.out).mono ?_
    rintro e w1 ⟨rfl, hb1⟩
    have HB1 := Lib.hid hb1
    clear hb1
    go_wp2
    go_ret2
    exact ⟨⟨none, 0, 0, rfl, rfl, OwnI.nil_ _ _⟩, HB1.out⟩
  by_cases h16 : n ≤ 16
  · rw [hv] at hO
    rw [show pfL h = quA (pfF h n) n (List.replicate (n + 1) 0) by unfold pfL; rw [if_pos ⟨hv, by omega⟩, hn], show pfC h = 0 by unfold pfC; rw [if_pos hv, if_pos (by omega)]]
    have HO := Lib.hid hO
    have hval := validB_iff.1 hv
    have HVal := Lib.hid hval
    obtain ⟨b1, o1, eA, _, _⟩ := hr.at_ 0 (by have := hval.1.1; omega)
    subst eA
    have HR := Lib.hid hr
    have HN := Lib.hid hn
    clear hO hv hr hn hval
    go_enter Try.func21, Try.ntmps21
    go_wp2_with fail
    refine (HO.out).mono ?_
    rintro e w1 ⟨rfl, hb1⟩
    have HB1 := Lib.hid hb1
    clear hb1
    have hz1 := HB1.out.size
    have hn1 : 1 ≤ n := by rw [← HN.out]; exact HVal.out.1.1
    have HO0 := Lib.hid (OwnI.made w1 (n + 1) (by unfold maxLen; omega) hz1)
    have HBm := Lib.hid (HB1.out.alloc hz1 (.cells (madeCells #[.int .i64 0] (n + 1)) 2))
    obtain ⟨F, hF⟩ : ∃ F, F = pfF h n := ⟨_, rfl⟩
    rw [← hF]
    have HF := Lib.hid hF
    clear hF
    have HBd := Lib.hid (show Cnt (n + 1) 0 (List.replicate (n + 1) 0) from ⟨by simp, fun j => by
      have : nth (List.replicate (n + 1) (0 : Int)) j = 0 := by simp [nth, List.getElem?_replicate]; split <;> rfl
      rw [this]; simp⟩)
    generalize List.replicate (n + 1) (0 : Int) = S0 at *
    have hmk := fun W : World => run_make_row' (P := Try.prog) 29 2 (.int .i64 0) 8 Try.underlying29 infoI rfl .i64 .i64 (n + 1) (by omega) (by omega) W
    push_cast at hmk
    go_wp2
    clear hmk
    generalize hAd : w1.heap.size = g at *
    generalize (w1.alloc (.cells (madeCells #[.int .i64 0] (n + 1)) 2)) = w2 at *
    clear hAd
    go_loopw [6, 7, 8, 9, 10, 11] (fun i _ _ _ _ _ wr => ∃ a : Nat, a ≤ n ∧ i = .int .i64 a ∧ Hid (OwnI wr w.heap.size (some ⟨g, 0, none⟩) (n + 1) (bfA F n S0 a)) ∧ Hid (Below w.heap.size w wr)) (fun i _ _ _ _ _ _ => n - (intOf i).toNat)
    case atStart => exact ⟨0, Nat.zero_le _, rfl, HO0, HBm⟩
    case round =>
      obtain ⟨a, ha, rfl, HOa, HBa⟩ := hrel
      obtain ⟨wa, hwa⟩ : ∃ wa : World, wa = wr := ⟨_, rfl⟩
      subst hwa
      by_cases hla : a < n
      · have HOb0 := Lib.hid (show OwnI wa w.heap.size (some ⟨g, 0, none⟩) (n + 1) (bfB F n S0 a (a + 1)) by rw [bfB_first]; exact HOa.out)
        go_wp2
        go_loopw [7, 8, 9, 10, 11] (fun i _ _ _ _ wr => ∃ b : Nat, a < b ∧ b ≤ n ∧ i = .int .i64 b ∧ Hid (OwnI wr w.heap.size (some ⟨g, 0, none⟩) (n + 1) (bfB F n S0 a b)) ∧ Hid (Below w.heap.size w wr)) (fun i _ _ _ _ _ => n - (intOf i).toNat)
        case atStart => exact ⟨a + 1, by omega, by omega, by go_num, HOb0, HBa⟩
        case round =>
          obtain ⟨b, hab, hb, rfl, HOb, HBb⟩ := hrel
          obtain ⟨wb, hwb⟩ : ∃ wb : World, wb = wr := ⟨_, rfl⟩
          subst hwb
          by_cases hlb : b < n
          · have HOc0 := Lib.hid (show OwnI wb w.heap.size (some ⟨g, 0, none⟩) (n + 1) (bfC F n S0 a b (b + 1)) by rw [bfC_first]; exact HOb.out)
            go_wp2
            go_loopw [8, 9, 10, 11] (fun i _ _ _ wr => ∃ c : Nat, b < c ∧ c ≤ n ∧ i = .int .i64 c ∧ Hid (OwnI wr w.heap.size (some ⟨g, 0, none⟩) (n + 1) (bfC F n S0 a b c)) ∧ Hid (Below w.heap.size w wr)) (fun i _ _ _ _ => n - (intOf i).toNat)
            case atStart => exact ⟨b + 1, by omega, by omega, by go_num, HOc0, HBb⟩
            case round =>
              obtain ⟨cc, hbc, hc, rfl, HOc, HBc⟩ := hrel
              obtain ⟨wc, hwc⟩ : ∃ wc : World, wc = wr := ⟨_, rfl⟩
              subst hwc
              by_cases hlc : cc < n
              · have HOd0 := Lib.hid (show OwnI wc w.heap.size (some ⟨g, 0, none⟩) (n + 1) (bfD F n S0 a b cc (cc + 1)) by rw [bfD_first]; exact HOc.out)
                go_wp2
                go_loopw [9, 10, 11] (fun i _ _ wr => ∃ d : Nat, cc < d ∧ d ≤ n ∧ i = .int .i64 d ∧ Hid (OwnI wr w.heap.size (some ⟨g, 0, none⟩) (n + 1) (bfD F n S0 a b cc d)) ∧ Hid (Below w.heap.size w wr)) (fun i _ _ _ => n - (intOf i).toNat)
                case atStart => exact ⟨cc + 1, by omega, by omega, by go_num, HOd0, HBc⟩
                case round =>
                  obtain ⟨d, hcd, hd, rfl, HOd, HBd2⟩ := hrel
                  obtain ⟨wd, hwd⟩ : ∃ wd : World, wd = wr := ⟨_, rfl⟩
                  subst hwd
                  by_cases hld : d < n
                  · go_wp2
                    go_loopw [10, 11] (fun s i wr => ∃ (k : Nat) (x : Int), k ≤ n ∧ i = .int .i64 k ∧ s = .int .i64 x ∧ Hid (x = pfS h a b cc d k) ∧ -(k : Int) ≤ x ∧ x ≤ (k : Int) ∧ Qt wd wr) (fun _ i _ => n - (intOf i).toNat)
                    case atStart => exact ⟨0, 0, Nat.zero_le _, rfl, rfl, rfl, by simp, by simp, Qt.refl _⟩
                    case round =>
                      obtain ⟨k, x, hk, rfl, rfl, hx, hx1, hx2, ⟨m, rfl⟩⟩ := hrel
                      by_cases hlk : k < n
                      · have hrow : ∀ y, y < n → (row h y).length = n ∧ (nth (row h y) k = 1 ∨ nth (row h y) k = -1) := fun y hy => by
                          have h1 := HVal.out.2.1 y (by rw [HN.out]; exact hy)
                          rw [HN.out] at h1
                          exact ⟨h1.1, h1.2 k hlk⟩
                        have hla' : a < h.length := by rw [HN.out]; exact hla
                        have hlb' : b < h.length := by rw [HN.out]; exact hlb
                        have hlc' : cc < h.length := by rw [HN.out]; exact hlc
                        have hld' : d < h.length := by rw [HN.out]; exact hld
                        obtain ⟨ba, oa, Ca, ca1, ca2⟩ := pf_row HR.out HBd2.out hla' (hrow a hla).1 hlk
                        obtain ⟨bb, ob, Cb, cb1, cb2⟩ := pf_row HR.out HBd2.out hlb' (hrow b hlb).1 hlk
                        obtain ⟨bc, oc, Cc, cc1, cc2⟩ := pf_row HR.out HBd2.out hlc' (hrow cc hlc).1 hlk
                        obtain ⟨bd, od, Cd, cd1, cd2⟩ := pf_row HR.out HBd2.out hld' (hrow d hld).1 hlk
                        obtain ⟨hp4, hp3, hp2⟩ := pm_mul4 (hrow a hla).2 (hrow b hlb).2 (hrow cc hlc).2 (hrow d hld).2
                        have HT := Lib.hid (show x + nth (row h a) k * nth (row h b) k * nth (row h cc) k * nth (row h d) k = pfS h a b cc d (k + 1) by rw [pfS, hx.out, pfT])
                        clear hrow hla' hlb' hlc' hld'
                        generalize nth (row h a) k = ua at *
                        generalize nth (row h b) k = ub at *
                        generalize nth (row h cc) k = uc at *
                        generalize nth (row h d) k = ud at *
                        have hw1 : IntKind.i64.wrap (ua * ub) = ua * ub := IntWalk.i64_in _ (by omega)
                        have hw2 : IntKind.i64.wrap (ua * ub * uc) = ua * ub * uc := IntWalk.i64_in _ (by omega)
                        have hw3 : IntKind.i64.wrap (ua * ub * uc * ud) = ua * ub * uc * ud := IntWalk.i64_in _ (by omega)
                        have hw4 : IntKind.i64.wrap (x + ua * ub * uc * ud) = x + ua * ub * uc * ud := IntWalk.i64_in _ (by omega)
                        go_wp2
                        go_quiet (fail)
                        clear hw1 hw2 hw3 hw4
                        go_wp2
                        go_roundw
                        case rel => exact ⟨k + 1, _, by omega, by go_num, rfl, HT, by omega, by omega, ⟨_, rfl⟩⟩
                        case measure => simp [intOf]; omega
                      · obtain rfl : k = n := by omega
                        have hcnt := cnt_bfD (h := h) (n := k) h16 (a := a) (b := b) (c := cc) (d := d) (by omega) (by omega) (by omega) (by omega) HBd.out
                        obtain ⟨y, hy⟩ : ∃ y : Nat, y = x.natAbs := ⟨_, rfl⟩
                        obtain ⟨v, hv⟩ : ∃ v, v = nth (bfD F k S0 a b cc d) y := ⟨_, rfl⟩
                        have hvb : 0 ≤ v ∧ v ≤ 69904 := by have := hcnt.2 y; rw [hv, HF.out]; omega
                        have hyk : y < k + 1 := by omega
                        have hy0 : (0 : Int) ≤ (y : Int) := by omega
                        have hy1 : (y : Int) < (k : Int) + 1 := by omega
                        have hst := (HOd.out.drewN m).stored y (v + 1)
                        have hE : (bfD F k S0 a b cc d).set y (v + 1) = bfD F k S0 a b cc (d + 1) := by
                          rw [bfD_succ hcd, HF.out, pfF, ← hx.out, ← hy, hv, HF.out]
                        rw [hE] at hst
                        have HOx := Lib.hid hst
                        obtain ⟨g1, eg1, hg1, _, hct, hft⟩ := (HOd.out.drewN m).at_ (k := y) (by rw [HF.out, hcnt.1]; exact hyk)
                        injection eg1 with eg1
                        injection eg1 with eg1
                        subst eg1
                        have HBx := Lib.hid ((below_drewN HBd2.out m).setCell (p := ⟨g, y, none⟩) hg1 (.int .i64 (v + 1)))
                        rw [← hv] at hct
                        have HM := Lib.hid (l00Max_c (wd.drewN m) x (-x) (by omega) rfl)
                        rw [← hy] at HM
                        have hwn : IntKind.i64.wrap (-x) = -x := IntWalk.i64_in _ (by omega)
                        clear hst hE hcnt hv hy
                        go_wp2_with fail
                        refine (HM.out).mono ?_
                        rintro e w' ⟨rfl, rfl⟩
                        go_wp2
                        go_roundw
                        case rel => exact ⟨d + 1, by omega, by omega, by go_num, HOx, HBx⟩
                        case measure => simp [intOf]; omega
                  · obtain rfl : d = n := by omega
                    have HOx := Lib.hid (show OwnI wd w.heap.size (some ⟨g, 0, none⟩) (d + 1) (bfC F d S0 a b (cc + 1)) by rw [bfC_succ hbc, ← bfD_end]; exact HOd.out)
                    go_wp2
                    go_roundw
                    case rel => exact ⟨cc + 1, by omega, by omega, by go_num, HOx, HBd2⟩
                    case measure => simp [intOf]; omega
              · obtain rfl : cc = n := by omega
                have HOx := Lib.hid (show OwnI wc w.heap.size (some ⟨g, 0, none⟩) (cc + 1) (bfB F cc S0 a (b + 1)) by rw [bfB_succ hab, ← bfC_end]; exact HOc.out)
                go_wp2
                go_roundw
                case rel => exact ⟨b + 1, by omega, by omega, by go_num, HOx, HBc⟩
                case measure => simp [intOf]; omega
          · obtain rfl : b = n := by omega
            have HOx := Lib.hid (show OwnI wb w.heap.size (some ⟨g, 0, none⟩) (b + 1) (bfA F b S0 (a + 1)) by rw [bfA_succ, ← bfB_end]; exact HOb.out)
            go_wp2
            go_roundw
            case rel => exact ⟨a + 1, by omega, by go_num, HOx, HBb⟩
            case measure => simp [intOf]; omega
      · obtain rfl : a = n := by omega
        have HFin := Lib.hid (show PostSC w (quA (pfF h a) a S0) 0 (.returned (.tuple #[.slice (some ⟨g, 0, none⟩) (a + 1) (a + 1), .int .i64 0])) wa from ⟨⟨_, _, _, rfl, by rw [← bfA_end]; exact (cnt_bfA (by omega) (Nat.le_refl _) HBd.out).1, by rw [← bfA_end, ← HF.out]; exact HOa.out⟩, HBa.out⟩)
        go_wp2
        go_ret2
        exact HFin.out
  · rw [hv] at hO
    rw [show pfL h = [] by unfold pfL; rw [if_neg (fun hh => h16 (by omega))], show pfC h = 5 by unfold pfC; rw [if_pos hv, if_neg (by omega)]]
    have HO := Lib.hid hO
    have hnb : n ≤ 32 := by
      have := validB_iff.1 hv
      unfold ValidH at this
      omega
    clear hO hv hr hn
    go_enter Try.func21, Try.ntmps21
    go_wp2_with fail
    refine (HO.out).mono ?_
    rintro e w1 ⟨rfl, hb1⟩
    have HB1 := Lib.hid hb1
    clear hb1
    go_wp2
    go_ret2
    exact ⟨⟨none, 0, 0, rfl, rfl, OwnI.nil_ _ _⟩, HB1.out⟩
end Go.Proofs.Ytnpbkkglnbobaaa
