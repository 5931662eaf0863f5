/-
  ProfileOf: the walk of the program. Conditions: those of each theorem.
-/
import Derived.Test.YtnpbkkglnbobaaaProfW
import Derived.Test.YtnpbkkglnbobaaaProfN
namespace Go.Proofs.Ytnpbkkglnbobaaa
open Go.RowKit
set_option linter.unusedVariables false
set_option linter.unusedSimpArgs false

theorem OwnI.lit4 (w : World) (a b c d : Int) {lo : Nat} (h : lo ≤ w.heap.size) : OwnI (w.alloc (.cells #[.int .i64 a, .int .i64 b, .int .i64 c, .int .i64 d] 2)) lo (some ⟨w.heap.size, 0, none⟩) 4 [a, b, c, d] :=
  World.ownsRow_lit (e := 2) (size := 1) w #[.int .i64 a, .int .i64 b, .int .i64 c, .int .i64 d] 4 h (by unfold maxLen; omega) rfl

theorem quad_set {n a b c d : Nat} (hab : a < b) (hbc : b < c) (hcd : c < d) (hdn : d < n) (hn : n ≤ 32) : setB (quad a b c d) (n : Int) = true := by
  rw [setB_iff]
  refine ⟨?_, ?_, by omega, by omega⟩
  · simp [quad]; omega
  · intro z hz
    simp [quad] at hz
    omega

set_option maxRecDepth 100000 in
set_option maxHeartbeats 4000000 in
theorem implProfileOf_c (w : World) (A : Option Addr) (n c : Nat) (R : Spine) (h : List (List Int)) (hr : RdM w A c R h) (hn : h.length = n) (hw : WfM h) (hz : (n : Int) + (tot h : Nat) ≤ 1048576) :
    Calls Try.prog 23 #[.slice A n c] w (PostSC w (pfL h) (pfC h)) := by
  have hO := implValid_c w A n c R h hr hn (by omega)
  clear hw hz
  rcases hv : validB h with _ | _
  · rw [hv] at hO
    rw [show pfL h = [] by simp [pfL, hv], show pfC h = 1 by simp [pfC, hv]]
    have HO := Lib.hid hO
    clear hO hv hr hn
    go_enter Try.func23, Try.ntmps23
    go_wp2_with fail
    refine (HO.out).mono ?_
    rintro e w1 ⟨rfl, hb1⟩
    have HB1 := Lib.hid hb1
    clear hb1
    go_wp2
    go_ret2
    exact ⟨⟨none, 0, 0, rfl, rfl, OwnI.nil_ _ _⟩, HB1.out⟩
  have hn32 : n ≤ 32 := by have := (validB_iff.1 hv).1.2; omega
  have hn1 : 1 ≤ n := by have := (validB_iff.1 hv).1.1; omega
  by_cases h16 : n ≤ 16
  · rw [hv] at hO
    rw [show pfL h = quA (pfF h n) n (List.replicate (n + 1) 0) by unfold pfL; rw [if_pos ⟨hv, by omega⟩, hn], show pfC h = 0 by unfold pfC; rw [if_pos hv, if_pos (by omega)]]
    have HO := Lib.hid hO
    have hval := validB_iff.1 hv
    have HVal := Lib.hid hval
    obtain ⟨b1, o1, eA, _, _⟩ := hr.at_ 0 (by have := hval.1.1; omega)
    subst eA
    have HR := Lib.hid hr
    have HN := Lib.hid hn
    have hmk := fun W : World => run_make_row' (P := Try.prog) 29 2 (.int .i64 0) 8 Try.underlying29 infoI rfl .i64 .i64 (n + 1) (by omega) (by omega) W
    push_cast at hmk
    clear hO hv hr hn hval
    by_cases h4 : n < 4
    · rw [qu_few h4]
      go_enter Try.func23, Try.ntmps23
      go_wp2_with fail
      refine (HO.out).mono ?_
      rintro e w1 ⟨rfl, hb1⟩
      have HB1 := Lib.hid hb1
      have hz1 := hb1.size
      clear hb1
      have HO0 := Lib.hid (OwnI.made w1 (n + 1) (by unfold maxLen; omega) hz1)
      have HBm := Lib.hid (HB1.out.alloc hz1 (.cells (madeCells #[.int .i64 0] (n + 1)) 2))
      go_wp2_with fail
      refine (sizeS_c _ _ _ _).mono ?_
      rintro e w' ⟨rfl, rfl⟩
      go_wp2
      go_ret2
      exact ⟨⟨_, _, _, rfl, by simp, HO0.out⟩, HBm.out⟩
    · obtain ⟨F, hF⟩ : ∃ F, F = pfF h n := ⟨_, rfl⟩
      rw [← hF]
      have HF := Lib.hid hF
      clear hF
      have HBd := Lib.hid (show Cnt (n + 1) 0 (List.replicate (n + 1) 0) from ⟨by simp, fun j => by
        have : nth (List.replicate (n + 1) (0 : Int)) j = 0 := by simp [nth, List.getElem?_replicate]; split <;> rfl
        rw [this]; simp⟩)
      go_enter Try.func23, Try.ntmps23
      go_wp2_with fail
      refine (HO.out).mono ?_
      rintro e w1 ⟨rfl, hb1⟩
      have HB1 := Lib.hid hb1
      have hz1 := hb1.size
      clear hb1
      have HO0 := Lib.hid (OwnI.made w1 (n + 1) (by unfold maxLen; omega) hz1)
      have HBm := Lib.hid (HB1.out.alloc hz1 (.cells (madeCells #[.int .i64 0] (n + 1)) 2))
      have HQ0 := Lib.hid (OwnI.lit4 (w1.alloc (.cells (madeCells #[.int .i64 0] (n + 1)) 2)) 0 1 2 3 (lo := w1.heap.size + 1) (by simp))
      have HO1 := Lib.hid (HO0.out.alloc (.cells #[.int .i64 0, .int .i64 1, .int .i64 2, .int .i64 3] 2))
      generalize List.replicate (n + 1) (0 : Int) = S0 at *
      go_wp2_with fail
      refine (sizeS_c _ _ _ _).mono ?_
      rintro e w' ⟨rfl, rfl⟩
      go_wp2
      clear hmk
      have HA := Lib.hid (show ∀ g1 g2 : Nat, g1 = w1.heap.size → g2 = w1.heap.size + 1 → g1 ≠ g2 from fun _ _ e1 e2 => by omega)
      have hsz : (w1.alloc (.cells (madeCells #[.int .i64 0] (n + 1)) 2)).heap.size = w1.heap.size + 1 := by simp
      have HBq := Lib.hid (HBm.out.alloc (by rw [hsz]; omega) (.cells #[.int .i64 0, .int .i64 1, .int .i64 2, .int .i64 3] 2))
      have HQ1 := Lib.hid (show OwnI ((w1.alloc (.cells (madeCells #[.int .i64 0] (n + 1)) 2)).alloc (.cells #[.int .i64 0, .int .i64 1, .int .i64 2, .int .i64 3] 2)) (w1.heap.size + 1) (some ⟨w1.heap.size + 1, 0, none⟩) 4 (quad 0 1 2 3) from by
        have := HQ0.out
        rw [hsz] at this
        rw [show quad 0 1 2 3 = [0, 1, 2, 3] from rfl]
        exact this)
      clear HQ0 hsz
      generalize hAd : w1.heap.size = g at *
      generalize ((w1.alloc (.cells (madeCells #[.int .i64 0] (n + 1)) 2)).alloc (.cells #[.int .i64 0, .int .i64 1, .int .i64 2, .int .i64 3] 2)) = w2 at *
      have HO2 := Lib.hid (show OwnI w2 w.heap.size (some ⟨g, 0, none⟩) (n + 1) (bfD F n S0 0 1 2 3) by rw [qu_start (by omega)]; exact HO1.out)
      clear hAd
      go_loopw [6, 7, 8, 9] (fun st more _ _ wr => Hid (Below w.heap.size w wr) ∧ ((∃ (a b cc d g2 k2 : Nat), a < b ∧ b < cc ∧ cc < d ∧ d < n ∧ g < g2 ∧ st = .slice (some ⟨g2, 0, none⟩) 4 k2 ∧ more = .bool true ∧ Hid (OwnI wr (g + 1) (some ⟨g2, 0, none⟩) k2 (quad a b cc d)) ∧ Hid (OwnI wr w.heap.size (some ⟨g, 0, none⟩) (n + 1) (bfD F n S0 a b cc d))) ∨ (more = .bool false ∧ Hid (OwnI wr w.heap.size (some ⟨g, 0, none⟩) (n + 1) (quA F n S0))))) (fun st more _ _ wr => rkOf wr st more)
      case atStart => exact ⟨HBq, Or.inl ⟨0, 1, 2, 3, _, _, by omega, by omega, by omega, by omega, by omega, rfl, rfl, HQ1, HO2⟩⟩
      case round =>
        obtain ⟨HBr, ⟨a, b, cc, d, g2, k2, hab, hbc, hcd, hdn, hgg, rfl, rfl, HQ, HOc⟩ | ⟨rfl, HOc⟩⟩ := hrel
        · obtain ⟨wa, hwa⟩ : ∃ wa : World, wa = wr := ⟨_, rfl⟩
          subst hwa
          go_wp2
          go_loopw [8, 9, 27] (fun s _ i wr => ∃ (k : Nat) (x : Int), k ≤ n ∧ i = .int .i64 k ∧ s = .int .i64 x ∧ Hid (x = pfS h a b cc d k) ∧ -(k : Int) ≤ x ∧ x ≤ (k : Int) ∧ Qt wa wr) (fun _ _ i _ => n - (intOf i).toNat)
          case atStart => exact ⟨0, 0, Nat.zero_le _, rfl, rfl, rfl, by simp, by simp, Qt.refl _⟩
          case round =>
            obtain ⟨k, x, hk, rfl, rfl, hx, hx1, hx2, ⟨m, rfl⟩⟩ := hrel
            by_cases hlk : k < n
            · have hqc : ∀ j, j < 4 → wa.cell? ⟨g2, j, none⟩ = some (.int .i64 (nth (quad a b cc d) j)) := fun j hj => by
                obtain ⟨g1, e, _, _, hc, _⟩ := HQ.out.at_ (k := j) (by simpa [quad] using hj)
                injection e with e
                injection e with e
                subst e
                exact hc
              have hq0 : wa.cell? ⟨g2, 0, none⟩ = some (.int .i64 (a : Int)) := hqc 0 (by omega)
              have hq1 : wa.cell? ⟨g2, 1, none⟩ = some (.int .i64 (b : Int)) := hqc 1 (by omega)
              have hq2 : wa.cell? ⟨g2, 2, none⟩ = some (.int .i64 (cc : Int)) := hqc 2 (by omega)
              have hq3 : wa.cell? ⟨g2, 3, none⟩ = some (.int .i64 (d : Int)) := hqc 3 (by omega)
              have hla : a < n := by omega
              have hlb : b < n := by omega
              have hlc : cc < n := by omega
              have hia : (0 : Int) ≤ (a : Int) ∧ (a : Int) < (n : Int) := by omega
              have hib : (0 : Int) ≤ (b : Int) ∧ (b : Int) < (n : Int) := by omega
              have hic : (0 : Int) ≤ (cc : Int) ∧ (cc : Int) < (n : Int) := by omega
              have hid' : (0 : Int) ≤ (d : Int) ∧ (d : Int) < (n : Int) := by omega
              clear hqc
              have hrow : ∀ y, y < n → (row h y).length = n ∧ (nth (row h y) k = 1 ∨ nth (row h y) k = -1) := fun y hy => by
                have h1 := HVal.out.2.1 y (by rw [HN.out]; exact hy)
                rw [HN.out] at h1
                exact ⟨h1.1, h1.2 k hlk⟩
              have hla' : a < h.length := by rw [HN.out]; exact hla
              have hlb' : b < h.length := by rw [HN.out]; exact hlb
              have hlc' : cc < h.length := by rw [HN.out]; exact hlc
              have hdn' : d < h.length := by rw [HN.out]; exact hdn
              obtain ⟨ba, oa, Ca, ca1, ca2⟩ := pf_row HR.out HBr.out hla' (hrow a hla).1 hlk
              obtain ⟨bb, ob, Cb, cb1, cb2⟩ := pf_row HR.out HBr.out hlb' (hrow b hlb).1 hlk
              obtain ⟨bc, oc, Cc, cc1, cc2⟩ := pf_row HR.out HBr.out hlc' (hrow cc hlc).1 hlk
              obtain ⟨bd, od, Cd, cd1, cd2⟩ := pf_row HR.out HBr.out hdn' (hrow d hdn).1 hlk
              obtain ⟨hp4, hp3, hp2⟩ := pm_mul4 (hrow a hla).2 (hrow b hlb).2 (hrow cc hlc).2 (hrow d hdn).2
              have HT := Lib.hid (show x + nth (row h a) k * nth (row h b) k * nth (row h cc) k * nth (row h d) k = pfS h a b cc d (k + 1) by rw [pfS, hx.out, pfT])
              clear hrow hla' hlb' hlc' hdn'
              generalize nth (row h a) k = ua at *
              generalize nth (row h b) k = ub at *
              generalize nth (row h cc) k = uc at *
              generalize nth (row h d) k = ud at *
              have hw1 : IntKind.i64.wrap (ua * ub) = ua * ub := IntWalk.i64_in _ (by omega)
              have hw2 : IntKind.i64.wrap (ua * ub * uc) = ua * ub * uc := IntWalk.i64_in _ (by omega)
              have hw3 : IntKind.i64.wrap (ua * ub * uc * ud) = ua * ub * uc * ud := IntWalk.i64_in _ (by omega)
              have hw4 : IntKind.i64.wrap (x + ua * ub * uc * ud) = x + ua * ub * uc * ud := IntWalk.i64_in _ (by omega)
              go_wp2
              go_quiet (fail)
              clear hw1 hw2 hw3 hw4
              go_wp2
              go_roundw
              case rel => exact ⟨k + 1, _, by omega, by go_num, rfl, HT, by omega, by omega, ⟨_, rfl⟩⟩
              case measure => simp [intOf]; omega
            · obtain rfl : k = n := by omega
              have hcnt := cnt_bfD (h := h) (n := k) h16 (a := a) (b := b) (c := cc) (d := d) (by omega) (by omega) (by omega) (by omega) HBd.out
              have hE : (bfD F k S0 a b cc d).set x.natAbs (nth (bfD F k S0 a b cc d) x.natAbs + 1) = F a b cc (bfD F k S0 a b cc d) d := by
                rw [HF.out, pfF, ← hx.out]
              have hSt := fun i (hi : NxAt (k : Int) (quad a b cc d) i) => nx_step hab hbc hcd hdn hi
              have hEn := fun (hi : NxEnd (k : Int) (quad a b cc d)) => nx_end hi F S0 (by omega)
              obtain ⟨y, hy⟩ : ∃ y : Nat, y = x.natAbs := ⟨_, rfl⟩
              obtain ⟨v, hv⟩ : ∃ v, v = nth (bfD F k S0 a b cc d) y := ⟨_, rfl⟩
              have hvb : 0 ≤ v ∧ v ≤ 69904 := by have := hcnt.2 y; rw [hv, HF.out]; omega
              have hyk : y < k + 1 := by omega
              have hy0 : (0 : Int) ≤ (y : Int) := by omega
              have hy1 : (y : Int) < (k : Int) + 1 := by omega
              have hst := (HOc.out.drewN m).stored y (v + 1)
              rw [← hy, ← hv] at hE
              rw [hE] at hst
              have HOx := Lib.hid hst
              obtain ⟨g1, eg1, hg1, _, hct, hft⟩ := (HOc.out.drewN m).at_ (k := y) (by rw [HF.out, hcnt.1]; exact hyk)
              injection eg1 with eg1
              injection eg1 with eg1
              subst eg1
              have HBx := Lib.hid ((below_drewN HBr.out m).setCell (p := ⟨g, y, none⟩) hg1 (.int .i64 (v + 1)))
              rw [← hv] at hct
              have HM := Lib.hid (abs_c (wa.drewN m) x (by omega))
              rw [← hy] at HM
              have HQx := Lib.hid (show OwnI ((wa.drewN m).setCell ⟨g, y, none⟩ (.int .i64 (v + 1))) (g + 1) (some ⟨g2, 0, none⟩) k2 (quad a b cc d) from (HQ.out.drewN m).setCell_other (fun g3 e => by
                injection e with e
                injection e with e
                show g3 ≠ g
                omega) _)
              have HNx := Lib.hid (NextSubset_c ((wa.drewN m).setCell ⟨g, y, none⟩ (.int .i64 (v + 1))) (k : Int) (some ⟨g2, 0, none⟩) 4 k2 (quad a b cc d) HQx.out.rd rfl (quad_set hab hbc hcd hdn (by omega)) (by omega))
              have hrk := rkOf_quad (k := 4) HQ.out
              have hgw : g < ((wa.drewN m).setCell ⟨g, y, none⟩ (.int .i64 (v + 1))).heap.size := by
                have := (HOc.out.lt rfl).2
                simpa [World.setCell] using this
              have HSt := Lib.hid hSt
              have HEn := Lib.hid hEn
              have HRk := Lib.hid hrk
              clear hst hE hcnt hv hy hSt hEn hrk
              go_wp2_with fail
              refine (HM.out).mono ?_
              rintro e w' ⟨rfl, rfl⟩
              go_wp2_with fail
              refine (HNx.out).mono ?_
              rintro e w4 ⟨⟨i, A4, c4, hAt, rfl, hO4⟩ | ⟨hEnd, rfl⟩, hb4⟩
              · obtain ⟨a', b', c', d', h1, h2, h3, h4', h5, h6, h7⟩ := HSt.out i hAt
                rw [h5] at hO4
                obtain ⟨g4, e4, hg4, _, _, _⟩ := hO4.at_ (k := 0) (by simp [quad])
                subst e4
                have hO5 := HOx.out.below hb4
                rw [← h7 F S0] at hO5
                have HO5 := Lib.hid hO5
                have HQ5 := Lib.hid (hO4.lower (lo' := g + 1) (by omega))
                have hrk2 := rkOf_quad (k := 4) hO4
                have HB5 := Lib.hid (HBx.out.trans (hb4.mono HBx.out.size))
                have HRk2 := Lib.hid (show rkOf w4 (.slice (some ⟨g4, 0, none⟩) 4 c4) (.bool true) < rkOf wa (.slice (some ⟨g2, 0, none⟩) 4 k2) (.bool true) by
                  rw [hrk2, HRk.out]
                  have h8 := h6 h16
                  have h9 : rk4 a b cc d < 70000 := by unfold rk4; omega
                  omega)
                have hgg' : g < g4 := by omega
                rw [show (quad a b cc d).length = 4 from rfl]
                clear hO5 hO4 hb4 h5 h6 h7 hrk2 hAt
                go_wp2
                go_roundw
                case rel => exact ⟨HB5, Or.inl ⟨a', b', c', d', g4, c4, h1, h2, h3, h4', hgg', rfl, rfl, HQ5, HO5⟩⟩
                case measure => exact HRk2.out
              · have hO5 := HOx.out.below hb4
                rw [← HEn.out hEnd] at hO5
                have HO5 := Lib.hid hO5
                have HB5 := Lib.hid (HBx.out.trans (hb4.mono HBx.out.size))
                have HRk2 := Lib.hid (show rkOf w4 (.slice none 0 0) (.bool false) < rkOf wa (.slice (some ⟨g2, 0, none⟩) 4 k2) (.bool true) by
                  rw [rkOf_false, HRk.out]
                  have h9 : rk4 a b cc d < 70000 := by unfold rk4; omega
                  omega)
                clear hO5 hb4 hEnd
                go_wp2
                go_roundw
                case rel => exact ⟨HB5, Or.inr ⟨rfl, HO5⟩⟩
                case measure => exact HRk2.out
        · have HFin := Lib.hid (show PostSC w (quA F n S0) 0 (.returned (.tuple #[.slice (some ⟨g, 0, none⟩) (n + 1) (n + 1), .int .i64 0])) wr from ⟨⟨_, _, _, rfl, by rw [← bfA_end, HF.out]; exact (cnt_bfA (by omega) (Nat.le_refl _) HBd.out).1, HOc.out⟩, HBr.out⟩)
          go_wp2
          go_ret2
          first | exact HFin.out | (have := HFin.out; rw [HF.out] at this; exact this)
  · rw [hv] at hO
    rw [show pfL h = [] by unfold pfL; rw [if_neg (fun hh => h16 (by omega))], show pfC h = 5 by unfold pfC; rw [if_pos hv, if_neg (by omega)]]
    have HO := Lib.hid hO
    clear hO hv hr hn
    go_enter Try.func23, Try.ntmps23
    go_wp2_with fail
    refine (HO.out).mono ?_
    rintro e w1 ⟨rfl, hb1⟩
    have HB1 := Lib.hid hb1
    clear hb1
    go_wp2_with fail
    refine (sizeS_c _ _ _ _).mono ?_
    rintro e w' ⟨rfl, rfl⟩
    go_wp2
    go_ret2
    exact ⟨⟨none, 0, 0, rfl, rfl, OwnI.nil_ _ _⟩, HB1.out⟩

theorem ProfileOf_small (h : List (List Int)) : (pfL h).length ≤ 1048576 := by
  unfold pfL
  split
  · next hc =>
    have h1 := (cnt_bfA (h := h) (n := h.length) hc.2 (Nat.le_refl _) (l := h.length + 1) (B := 0) (s := List.replicate (h.length + 1) 0) ⟨by simp, fun j => by
      have : nth (List.replicate (h.length + 1) (0 : Int)) j = 0 := by simp [nth, List.getElem?_replicate]; split <;> rfl
      rw [this]; simp⟩).1
    rw [bfA_end] at h1
    omega
  · simp
end Go.Proofs.Ytnpbkkglnbobaaa
