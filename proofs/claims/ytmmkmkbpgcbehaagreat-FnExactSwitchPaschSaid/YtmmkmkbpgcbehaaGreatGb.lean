/-
  Texts of this claim, one behind the other. Conditions: those of each theorem.
-/
import Derived.Test.YtmmkmkbpgcbehaaGreatGa
import Derived.Deep.RegionHeld3
import Derived.Test.YtmmkmkbpgcbehaaGreatThirdP
import Derived.Test.YtmmkmkbpgcbehaaGreatPasL
import Derived.Test.YtmmkmkbpgcbehaaGreatSort
import Derived.Lib.SliceRun
import Derived.Test.YtmmkmkbpgcbehaaGreatDiff2
import Derived.IntWalk
import Derived.Deep.RegionLaw

/-
  Squares that are filled cell by cell: l06Zero, stores into an owned square. Conditions: those of each theorem.
-/
namespace Go.Proofs.YtmmkmkbpgcbehaaGreat
open Go.RowKit Go.Deep
set_option linter.unusedVariables false
set_option linter.unusedSimpArgs false

/-- A store at (i, j) of an owned square whose row i is known. -/
theorem OwnM.sq_store {w : World} {lo : Nat} {A : Option Addr} {c : Nat} {R : Spine} {f : Nat → Nat → Int} {m k i j g' : Nat} (h : OwnM w lo A c R (sqTo f m k)) (hi : i < k) (hj : j < m) (e : (R i).1 = some ⟨g', 0, none⟩) (v : Int) :
    OwnM (w.setCell ⟨g', j, none⟩ (.int .i64 v)) lo A c R (sqTo (upd f i j v) m k) := by
  obtain ⟨g, g2, C, _, hc, _, _, _, _, hset⟩ := h.sq_at hi hj
  have hi' : i < (sqTo f m k).length := by rw [length_sqTo]; exact hi
  obtain ⟨g3, e3, _, _, hc3, _⟩ := h.at_ hi'
  have hrow := h.rows i hi'
  rw [row_sqTo hi] at hrow
  obtain ⟨g4, e4, _, _, hcj, _⟩ := hrow.at_ (k := j) (by rw [length_rowTo]; exact hj)
  rw [e] at e4
  injection e4 with e4
  injection e4 with e4
  subst e4
  rw [← sqTo_set hi hj]
  rw [e] at hrow
  refine h.row_turned hi' (by rw [row_sqTo hi]; simp) ?_ ?_
  · rw [row_sqTo hi, e]
    exact hrow.stored j v
  · rw [e, blk_some]
    exact grownBy_setCell w ⟨g', j, none⟩ (.int .i64 v)
theorem OwnM.sq_row {w : World} {lo : Nat} {A : Option Addr} {c : Nat} {R : Spine} {f : Nat → Nat → Int} {m k i : Nat} (h : OwnM w lo A c R (sqTo f m k)) (hi : i < k) (hm : 0 < m) :
    ∃ g g', A = some ⟨g, 0, none⟩ ∧ (R i).1 = some ⟨g', 0, none⟩ ∧ lo ≤ g' ∧ g' < w.heap.size ∧ w.cell? ⟨g, i, none⟩ = some (.slice (some ⟨g', 0, none⟩) m (R i).2) ∧ ∀ j, j < m → w.cell? ⟨g', j, none⟩ = some (.int .i64 (f i j)) ∧ w.frozen? ⟨g', j, none⟩ = false := by
  have hi' : i < (sqTo f m k).length := by rw [length_sqTo]; exact hi
  obtain ⟨g, eg, _, _, hc, _⟩ := h.at_ hi'
  have hrow := h.rows i hi'
  rw [row_sqTo hi] at hrow hc
  rw [length_rowTo] at hc
  obtain ⟨g', e', hl, hlt, _, _⟩ := hrow.at_ (k := 0) (by rw [length_rowTo]; exact hm)
  refine ⟨g, g', eg, e', hl, hlt, by rw [hc, e'], fun j hj => ?_⟩
  obtain ⟨g2, e2, _, _, hcj, hf⟩ := hrow.at_ (k := j) (by rw [length_rowTo]; exact hj)
  rw [e'] at e2
  injection e2 with e2
  injection e2 with e2
  subst e2
  rw [nth_rowTo hj] at hcj
  exact ⟨hcj, hf⟩

def zeroF (_ _ : Nat) : Int := 0
def tqF (f : Nat → Nat → Int) (x y : Nat) : Nat → Nat → Int := fun i j => if i < x ∨ (i = x ∧ j < y) then f i j else 0
theorem tqF_set (f : Nat → Nat → Int) (x y : Nat) : upd (tqF f x y) x y (f x y) = tqF f x (y + 1) := by
  funext i j
  unfold upd tqF
  by_cases e : i = x ∧ j = y
  · obtain ⟨rfl, rfl⟩ := e
    rw [if_pos ⟨rfl, rfl⟩, if_pos (by omega)]
  · rw [if_neg e]
    by_cases h : i < x ∨ (i = x ∧ j < y)
    · rw [if_pos h, if_pos (by omega)]
    · rw [if_neg h, if_neg (by omega)]
theorem upd_upd (f : Nat → Nat → Int) (x y : Nat) (u v : Int) : upd (upd f x y u) x y v = upd f x y v := by
  funext i j
  unfold upd
  by_cases e : i = x ∧ j = y
  · rw [if_pos e, if_pos e]
  · rw [if_neg e, if_neg e, if_neg e]
theorem tqF_row (f : Nat → Nat → Int) (x P : Nat) : sqTo (tqF f x P) P P = sqTo (tqF f (x + 1) 0) P P := sqTo_congr fun i j _ hj => by
  unfold tqF
  by_cases h : i < x ∨ (i = x ∧ j < P)
  · rw [if_pos h, if_pos (by omega)]
  · rw [if_neg h, if_neg (by omega)]
theorem tqF_zero (f : Nat → Nat → Int) (P : Nat) : sqTo zeroF P P = sqTo (tqF f 0 0) P P := sqTo_congr fun i j _ _ => by
  unfold tqF zeroF
  rw [if_neg (by omega)]
theorem tqF_all (f : Nat → Nat → Int) (P : Nat) : sqTo (tqF f P 0) P P = sqTo f P P := sqTo_congr fun i j hi _ => by
  unfold tqF
  rw [if_pos (by omega)]

end Go.Proofs.YtmmkmkbpgcbehaaGreat

/-
  The third point of two points: thirdPoints of the program, l11Third, l11Two of the reference, ThirdPoint of both. Conditions: those of each theorem.
-/
namespace Go.Proofs.YtmmkmkbpgcbehaaGreat
open Go.RowKit
set_option linter.unusedVariables false
set_option linter.unusedSimpArgs false

def diaF (k x y : Nat) : Int := if x = y ∧ x < k then (x : Int) else 0
theorem diaF_succ (k : Nat) : upd (diaF k) k k (k : Int) = diaF (k + 1) := by
  funext x y
  unfold upd diaF
  by_cases e : x = k ∧ y = k
  · obtain ⟨rfl, rfl⟩ := e
    rw [if_pos ⟨rfl, rfl⟩, if_pos ⟨rfl, by omega⟩]
  · rw [if_neg e]
    by_cases h : x = y ∧ x < k
    · rw [if_pos h, if_pos ⟨h.1, by omega⟩]
    · rw [if_neg h, if_neg (by omega)]
theorem diaF_all {P : Nat} (xss : List (List Int)) : sqTo (diaF P) P P = sqTo (thF xss 0) P P := sqTo_congr fun x y hx hy => by
  unfold diaF thF
  by_cases e : x = y
  · rw [if_pos ⟨e, hx⟩, if_pos e]
  · rw [if_neg (by omega), if_neg e, if_pos (by rw [firstIdx_miss (fun j hj => absurd hj (by omega))]; omega)]

set_option maxHeartbeats 8000000 in
theorem thirdPoints_c (w : World) (P : Nat) (A : Option Addr) (n c : Nat) (R : Spine) (xss : List (List Int)) (hr : RdM w A c R xss) (hn : xss.length = n) (hD : DsgOk (P : Int) xss) (hT : TripSys P xss) :
    Calls Tryz.prog 49 #[.agg #[.int .i64 (P : Int), .slice A n c]] w (PostM w (sqTo (thF xss xss.length) P P)) := by
  have hP1 : 1 ≤ P := by have := hD.1.1; omega
  have hP2 : P ≤ 32 := by have := hD.1.2; omega
  have hn1 : n ≤ 128 := by have := hD.2.1; omega
  have hB0 := below_boxed w (.cells #[.int .i64 (P : Int), .slice A n c] 28)
  have hX := BoxD.made w (P : Int) A n c 28
  have HR := Lib.hid hr
  have HN := Lib.hid hn
  have HTr := Lib.hid hT
  have HX := Lib.hid hX
  have HB0 := Lib.hid hB0
  have hc0 := hX.c0
  rw [hn]
  clear hB0 hX hr hn hD hT
  go_enter Tryz.func49, Tryz.ntmps49
  go_wp2_with fail
  refine (emptySquare_c _ P (by omega)).mono ?_
  rintro e w1 ⟨⟨A3, n3, c3, R3, rfl, hn3, ho3⟩, hb3⟩
  obtain rfl : n3 = P := by rw [length_sqTo] at hn3; exact hn3.symm
  obtain ⟨G3, eA3, _, _, _, _⟩ := ho3.at_ (k := 0) (by rw [length_sqTo]; omega)
  subst eA3
  have HO0 := Lib.hid (show OwnM w1 (w.heap.size + 1) (some ⟨G3, 0, none⟩) c3 R3 (sqTo (diaF 0) n3 n3) from by
    have h := ho3.lower (lo' := w.heap.size + 1) (by simp)
    rwa [show sqTo (fun _ _ => (0 : Int)) n3 n3 = sqTo (diaF 0) n3 n3 from sqTo_congr fun x y _ _ => by unfold diaF; rw [if_neg (by omega)]] at h)
  have HB1 := Lib.hid (HB0.out.trans (hb3.mono (by simp)))
  have hsz1 : w.heap.size + 1 ≤ w1.heap.size := by have := hb3.size; simpa using this
  have HC1 := Lib.hid (HX.out.below hb3)
  clear hc0 hn3 ho3 hb3
  go_wp2
  go_loopw [16] (fun i wr => ∃ x : Nat, x ≤ n3 ∧ i = .int .i64 x ∧ Hid (OwnM wr (w.heap.size + 1) (some ⟨G3, 0, none⟩) c3 R3 (sqTo (diaF x) n3 n3)) ∧ Hid (Below (w.heap.size + 1) w1 wr)) (fun i _ => n3 - (intOf i).toNat)
  case atStart => exact ⟨0, Nat.zero_le _, rfl, HO0, Below.refl _ _⟩
  case round =>
    obtain ⟨x, hx, rfl, HO, HB⟩ := hrel
    by_cases hlt : x < n3
    · obtain ⟨g, g', C, eg, hg1, hg2, hfz, hlo, hgs, hset⟩ := HO.out.sq_at (i := x) (j := x) hlt hlt
      have hset' := hset (x : Int)
      rw [diaF_succ] at hset'
      have HO2 := Lib.hid hset'
      have HB2 := Lib.hid (HB.out.setCell (p := ⟨g', x, none⟩) hlo (.int .i64 (x : Int)))
      clear hset hset'
      injection eg with eg
      injection eg with eg
      subst eg
      go_wp2
      go_roundw
      case rel => exact ⟨x + 1, by omega, by go_num, HO2, HB2⟩
      case measure => simp [intOf]; omega
    · obtain rfl : x = n3 := by omega
      have HOa := Lib.hid (show OwnM wr (w.heap.size + 1) (some ⟨G3, 0, none⟩) c3 R3 (sqTo (thF xss 0) x x) from by rw [← diaF_all]; exact HO.out)
      have hbx := HC1.out.step (lo := w.heap.size + 1) (by omega) HB.out
      have hc1 := hbx.c1
      obtain ⟨wo, hwo⟩ : ∃ wo, wo = wr := ⟨_, rfl⟩
      rw [← hwo] at HB HOa hc1 ⊢
      clear hwo hbx
      go_wp2
      clear hc1
      go_loopw [30] (fun i wr => ∃ k : Nat, k ≤ n ∧ i = .int .i64 k ∧ Hid (OwnM wr (w.heap.size + 1) (some ⟨G3, 0, none⟩) c3 R3 (sqTo (thF xss k) x x)) ∧ Hid (Below (w.heap.size + 1) w1 wr)) (fun i _ => n - (intOf i).toNat)
      case atStart => exact ⟨0, Nat.zero_le _, rfl, HOa, HB⟩
      case round =>
        obtain ⟨k, hk, rfl, HO, HB⟩ := hrel
        by_cases hltk : k < n
        · have hkx : k < xss.length := by rw [HN.out]; exact hltk
          obtain ⟨b, off, e, hb, hc⟩ := HR.out.at_ k hkx
          subst e
          have HBw := Lib.hid (HB1.out.trans (HB.out.mono (by omega)))
          have hcc := (HBw.out.cell (p := ⟨b, off + k, none⟩) hb).trans hc
          obtain ⟨s, hs⟩ : ∃ s, s = row xss k := ⟨_, rfl⟩
          have hrs := HR.out.rows k hkx
          have h3 := HTr.out.three k hkx
          have hsB := HTr.out.rows k hkx
          rw [← hs] at hcc hrs h3 hsB
          rw [h3] at hcc
          have HS := Lib.hid hs
          have HRs := Lib.hid hrs
          have H3 := Lib.hid h3
          have HSB := Lib.hid hsB
          clear hc hs hrs h3 hsB
          obtain ⟨b1, o1, e1, hb1, hv0⟩ := HRs.out.at_ 0 (by rw [H3.out]; omega)
          obtain ⟨_, _, e2, _, hv1⟩ := HRs.out.at_ 1 (by rw [H3.out]; omega)
          obtain ⟨_, _, e3, _, hv2⟩ := HRs.out.at_ 2 (by rw [H3.out]; omega)
          rw [e1] at e2 e3 hcc
          injection e2 with e2
          injection e2 with e2 e4
          subst e2 e4
          injection e3 with e3
          injection e3 with e3 e4
          subst e3 e4
          have HV := Lib.hid (show ∀ i, i < 3 → w.cell? ⟨b1, o1 + i, none⟩ = some (.int .i64 ((sN s i : Nat) : Int)) from fun i hi => by
            have h := (three_sN HSB.out H3.out hi).2.1
            rcases (show i = 0 ∨ i = 1 ∨ i = 2 by omega) with rfl | rfl | rfl
            · rw [hv0, h]
            · rw [hv1, h]
            · rw [hv2, h])
          clear hv0 hv1 hv2 e1
          have HOk := Lib.hid (show OwnM wr (w.heap.size + 1) (some ⟨G3, 0, none⟩) c3 R3 (sqTo (thI xss s k 0) x x) from by rw [thI_zero]; exact HO.out)
          obtain ⟨wo2, hwo2⟩ : ∃ wo2, wo2 = wr := ⟨_, rfl⟩
          rw [← hwo2] at HB HOk hcc ⊢
          clear hwo2
          go_wp2
          go_loopw [36] (fun i wr => ∃ i0 : Nat, i0 ≤ 3 ∧ i = .int .i64 i0 ∧ Hid (OwnM wr (w.heap.size + 1) (some ⟨G3, 0, none⟩) c3 R3 (sqTo (thI xss s k i0) x x)) ∧ Hid (Below (w.heap.size + 1) w1 wr)) (fun i _ => 3 - (intOf i).toNat)
          case atStart => exact ⟨0, by omega, rfl, HOk, HB⟩
          case round =>
            obtain ⟨i, hi, rfl, HO2, HB2⟩ := hrel
            by_cases hlt3 : i < 3
            · obtain ⟨haP, _, hn1', hn2', hn3', _, _⟩ := three_sN HSB.out H3.out hlt3
              have hbP := (three_sN HSB.out H3.out (i := (i + 1) % 3) (by omega)).1
              have hcP := (three_sN HSB.out H3.out (i := (i + 2) % 3) (by omega)).1
              have hsu := thI_succ (xss := xss) HSB.out H3.out k hlt3
              have hva := (HB1.out.trans (HB2.out.mono (by omega))).cell (p := ⟨b1, o1 + i, none⟩) hb1
              have hvb := (HB1.out.trans (HB2.out.mono (by omega))).cell (p := ⟨b1, o1 + (i + 1) % 3, none⟩) hb1
              have hvc := (HB1.out.trans (HB2.out.mono (by omega))).cell (p := ⟨b1, o1 + (i + 2) % 3, none⟩) hb1
              rw [HV.out i hlt3] at hva
              rw [HV.out ((i + 1) % 3) (by omega)] at hvb
              rw [HV.out ((i + 2) % 3) (by omega)] at hvc
              obtain ⟨a, ha⟩ : ∃ a, a = sN s i := ⟨_, rfl⟩
              obtain ⟨u, hu⟩ : ∃ u, u = sN s ((i + 1) % 3) := ⟨_, rfl⟩
              obtain ⟨v, hv⟩ : ∃ v, v = sN s ((i + 2) % 3) := ⟨_, rfl⟩
              rw [← ha] at hva haP hsu hn1' hn2'
              rw [← hu] at hvb hbP hsu hn1' hn3'
              rw [← hv] at hvc hcP hsu hn2' hn3'
              have HSu := Lib.hid hsu
              have HN3 := Lib.hid hn3'
              have ha0 : (0 : Int) ≤ (a : Int) := by omega
              have ha1 : (a : Int) < (x : Int) := by omega
              have hu0 : (0 : Int) ≤ (u : Int) := by omega
              have hu1 : (u : Int) < (x : Int) := by omega
              have hv0 : (0 : Int) ≤ (v : Int) := by omega
              have hv1 : (v : Int) < (x : Int) := by omega
              clear ha hu hv hn1' hn2' hn3' hsu
              have HHi := Lib.hid hlt3
              rcases (show i = 0 ∨ i = 1 ∨ i = 2 by omega) with rfl | rfl | rfl
              all_goals
                simp only [Nat.reduceAdd, Nat.reduceMod, Nat.add_zero] at hva hvb hvc
                go_wp2
                go_quiet (fail)
                have HOq := Lib.hid (HO2.out.drewN nq)
                have HBq := Lib.hid (below_drewN HB2.out nq)
                clear hva hvb hvc
                generalize wr.drewN nq = wq at *
                obtain ⟨g, g', eg, er, hlo, hgs, hg1, hg2⟩ := HOq.out.sq_row (i := a) haP (by omega)
                obtain ⟨hq1, hf1⟩ := hg2 u hbP
                obtain ⟨hq2, hf2⟩ := hg2 v hcP
                have hst1 := (HOq.out.sq_store haP hbP er (v : Int)).sq_store haP hcP er (u : Int)
                have hst2 := (HOq.out.sq_store haP hcP er (u : Int)).sq_store haP hbP er (v : Int)
                rw [HSu.out] at hst1
                rw [upd_comm _ (.inr HN3.out.symm), HSu.out] at hst2
                have HO3 := Lib.hid hst1
                have HO4 := Lib.hid hst2
                have HB3 := Lib.hid ((HBq.out.setCell (p := ⟨g', u, none⟩) hlo (.int .i64 (v : Int))).setCell (p := ⟨g', v, none⟩) hlo (.int .i64 (u : Int)))
                have HB4 := Lib.hid ((HBq.out.setCell (p := ⟨g', v, none⟩) hlo (.int .i64 (u : Int))).setCell (p := ⟨g', u, none⟩) hlo (.int .i64 (v : Int)))
                have hs1 := (show (wq.setCell ⟨g', u, none⟩ (.int .i64 (v : Int))).cell? ⟨g', v, none⟩ = wq.cell? ⟨g', v, none⟩ from World.cell?_setCell_other _ _ _ _ (by intro e'; injection e' with e1 e2; exact HN3.out (by omega))).trans hq2
                have hs2 := (show (wq.setCell ⟨g', v, none⟩ (.int .i64 (u : Int))).cell? ⟨g', u, none⟩ = wq.cell? ⟨g', u, none⟩ from World.cell?_setCell_other _ _ _ _ (by intro e'; injection e' with e1 e2; exact HN3.out (by omega))).trans hq1
                clear hst1 hst2 hg2 er
                injection eg with eg
                injection eg with eg
                subst eg
                go_wp2
                go_region
                all_goals go_wp2
                all_goals go_roundw
                case rel => first | exact ⟨_, by have := HHi.out; omega, by go_num, HO3, HB3⟩ | exact ⟨_, by have := HHi.out; omega, by go_num, HO4, HB4⟩ | exact ⟨_, by have := HHi.out; omega, by go_num, Lib.hid HO3.out.drew, Lib.hid HB3.out.drew⟩ | exact ⟨_, by have := HHi.out; omega, by go_num, Lib.hid HO4.out.drew, Lib.hid HB4.out.drew⟩
                case measure => simp [intOf]
            · obtain rfl : i = 3 := by omega
              have HOn := Lib.hid (show OwnM wr (w.heap.size + 1) (some ⟨G3, 0, none⟩) c3 R3 (sqTo (thF xss (k + 1)) x x) from by
                rw [sqTo_congr (g := thI xss s k 3) (fun a b ha hb => by rw [HS.out]; exact (thI_all HTr.out hkx ha hb).symm)]
                exact HO2.out)
              go_wp2
              go_roundw
              case rel => exact ⟨k + 1, by omega, by go_num, HOn, HB2⟩
              case measure => simp [intOf]; omega
        · obtain rfl : k = n := by omega
          have HOf := Lib.hid (HO.out.lower (lo' := w.heap.size) (by omega))
          have HBf := Lib.hid (HB1.out.trans (HB.out.mono (by omega)))
          have HLn := Lib.hid (length_sqTo (thF xss k) x x)
          go_wp2
          go_ret
          exact ⟨⟨_, x, c3, R3, rfl, HLn.out, HOf.out⟩, HBf.out⟩

theorem trip_dsg {p : Int} {xss : List (List Int)} (h : tripB p xss = true) : DsgOk p xss ∧ tripOk p.toNat xss := by
  unfold tripB at h
  rw [Bool.and_eq_true, dsgB_true, decide_eq_true_eq] at h
  exact h
theorem trip_sys {P : Nat} {xss : List (List Int)} (h : tripB (P : Int) xss = true) : DsgOk (P : Int) xss ∧ TripSys P xss := by
  obtain ⟨h1, h2⟩ := trip_dsg h
  exact ⟨h1, trip_of h1 (by simpa using h2)⟩

/-- The code of a triple system and two points. -/
def twoI (p : Int) (xss : List (List Int)) (a b : Int) : Int := if tripB p xss = false then 1 else if inB a 0 (p - 1) = false ∨ inB b 0 (p - 1) = false ∨ a = b then 2 else 0
theorem twoI_zero {p : Int} {xss : List (List Int)} {a b : Int} (h : twoI p xss a b = 0) : tripB p xss = true ∧ (0 ≤ a ∧ a ≤ p - 1) ∧ (0 ≤ b ∧ b ≤ p - 1) ∧ a ≠ b := by
  unfold twoI at h
  split at h
  · omega
  · next h1 =>
    split at h
    · omega
    · next h2 =>
      refine ⟨by simpa using h1, inB_true.1 ?_, inB_true.1 ?_, fun e => h2 (.inr (.inr e))⟩
      · rcases hq : inB a 0 (p - 1) with _ | _
        · exact absurd (.inl hq) h2
        · rfl
      · rcases hq : inB b 0 (p - 1) with _ | _
        · exact absurd (.inr (.inl hq)) h2
        · rfl

set_option maxHeartbeats 4000000 in
theorem l11Third_c (w : World) (Bx P : Nat) (A : Option Addr) (n c : Nat) (R : Spine) (xss : List (List Int)) (hx : BoxD w Bx (P : Int) A n c) (hr : RdM w A c R xss) (hn : xss.length = n) (hD : DsgOk (P : Int) xss) (hT : TripSys P xss)
    (a b : Nat) (hne : a ≠ b) (ha : a < P) (hb : b < P) :
    Calls Tryz.prog 75 #[.pointer (some ⟨Bx, 0, none⟩), .int .i64 (a : Int), .int .i64 (b : Int)] w (EndQ (.int .i64 (thF xss xss.length a b)) w) := by
  have hP2 : P ≤ 32 := by have := hD.1.2; omega
  have hn1 : n ≤ 128 := by have := hD.2.1; omega
  obtain ⟨k0, hk0, hk1, hk2⟩ := thF_look hT hne ha hb
  have hc1 := hx.c1
  obtain ⟨T, hTT⟩ : ∃ T, T = thF xss xss.length a b := ⟨_, rfl⟩
  rw [← hTT]
  have HTT := Lib.hid (hTT.trans hk2)
  have HK1 := Lib.hid hk1
  have HR := Lib.hid hr
  have HN := Lib.hid hn
  have HTr := Lib.hid hT
  clear hx hr hn hD hT hTT hk1 hk2 hne
  go_enter Tryz.func75, Tryz.ntmps75
  go_wp2
  go_loop [7, 8] (fun i _ => ∃ k : Nat, k ≤ n ∧ i = .int .i64 k ∧ Hid (∀ j, j < k → lineP xss (a : Int) (b : Int) j = false)) (fun i _ => n - (intOf i).toNat)
  case atStart => exact ⟨0, Nat.zero_le _, rfl, fun j hj => absurd hj (by omega)⟩
  case round =>
    obtain ⟨k, hk, rfl, hP⟩ := hrel
    by_cases hlt : k < n
    · have hkx : k < xss.length := by rw [HN.out]; exact hlt
      obtain ⟨b1, off, e, hb1, hc⟩ := HR.out.at_ k hkx
      subst e
      have h3 := HTr.out.three k hkx
      have hrs := HR.out.rows k hkx
      have HSB := Lib.hid (HTr.out.rows k hkx)
      obtain ⟨s, hs⟩ : ∃ s, s = row xss k := ⟨_, rfl⟩
      have HS := Lib.hid hs
      rw [← hs] at hc h3 hrs HSB
      rw [h3] at hc
      have HH := Lib.hid (has_c w (R k).1 3 (R k).2 s (a : Int) hrs h3)
      have HH2 := Lib.hid (has_c w (R k).1 3 (R k).2 s (b : Int) hrs h3)
      have HLP := Lib.hid (show lineP xss (a : Int) (b : Int) k = (hasB s (a : Int) && hasB s (b : Int)) by rw [hs]; rfl)
      have hi0 : (0 : Int) ≤ (k : Int) := by omega
      have hi1 : (k : Int) < (n : Int) := by omega
      have H3 := Lib.hid h3
      have HRs := Lib.hid hrs
      clear hs h3 hrs
      generalize hasB s (a : Int) = q1 at *
      generalize hasB s (b : Int) = q2 at *
      cases q1
      · go_wp2_with fail
        refine (HH.out).mono ?_
        rintro e w' ⟨rfl, rfl⟩
        go_wp2
        go_round
        case rel =>
          refine ⟨k + 1, by omega, by go_num, fun j hj => ?_⟩
          by_cases e : j = k
          · subst e; rw [HLP.out]; rfl
          · exact hP.out j (by omega)
        case measure => simp [intOf]; omega
      · cases q2
        · go_wp2_with fail
          refine (HH.out).mono ?_
          rintro e w' ⟨rfl, rfl⟩
          go_wp2_with fail
          refine (HH2.out).mono ?_
          rintro e w' ⟨rfl, rfl⟩
          go_wp2
          go_round
          case rel =>
            refine ⟨k + 1, by omega, by go_num, fun j hj => ?_⟩
            by_cases e : j = k
            · subst e; rw [HLP.out]; rfl
            · exact hP.out j (by omega)
          case measure => simp [intOf]; omega
        · have hk00 : (k0 : Int) = (k : Int) := by rw [← HK1.out]; exact firstIdx_hit hkx HLP.out hP.out
          have HF := Lib.hid (show T = nth s 0 + nth s 1 + nth s 2 - (a : Int) - (b : Int) by
            rw [HTT.out, show k0 = k by omega, ← HS.out]; rfl)
          obtain ⟨b2, o2, e2, hb2, hv0⟩ := HRs.out.at_ 0 (by rw [H3.out]; omega)
          obtain ⟨_, _, e3, _, hv1⟩ := HRs.out.at_ 1 (by rw [H3.out]; omega)
          obtain ⟨_, _, e4, _, hv2⟩ := HRs.out.at_ 2 (by rw [H3.out]; omega)
          rw [e2] at e3 e4 hc HH HH2
          injection e3 with e3
          injection e3 with e3 e5
          subst e3 e5
          injection e4 with e4
          injection e4 with e4 e5
          subst e4 e5
          simp only [Nat.add_zero] at hv0
          have hs0 := three_sN HSB.out H3.out (i := 0) (by omega)
          have hs1 := three_sN HSB.out H3.out (i := 1) (by omega)
          have hs2 := three_sN HSB.out H3.out (i := 2) (by omega)
          have hd0 := hs0.1
          have hd1 := hs1.1
          have hd2 := hs2.1
          have he0 := hs0.2.1
          have he1 := hs1.2.1
          have he2 := hs2.2.1
          obtain ⟨y0, hy0⟩ : ∃ y0, y0 = nth s 0 := ⟨_, rfl⟩
          obtain ⟨y1, hy1⟩ : ∃ y1, y1 = nth s 1 := ⟨_, rfl⟩
          obtain ⟨y2, hy2⟩ : ∃ y2, y2 = nth s 2 := ⟨_, rfl⟩
          rw [← hy0] at HF hv0 he0
          rw [← hy1] at HF hv1 he1
          rw [← hy2] at HF hv2 he2
          have q0 : 0 ≤ y0 := by omega
          have q00 : y0 ≤ 32 := by omega
          have q1 : 0 ≤ y1 := by omega
          have q11 : y1 ≤ 32 := by omega
          have q2 : 0 ≤ y2 := by omega
          have q22 : y2 ≤ 32 := by omega
          have w1 : IntKind.i64.wrap (y0 + y1) = y0 + y1 := IntWalk.i64_in _ (by omega)
          have w2 : IntKind.i64.wrap (y0 + y1 + y2) = y0 + y1 + y2 := IntWalk.i64_in _ (by omega)
          have w3 : IntKind.i64.wrap (y0 + y1 + y2 - (a : Int)) = y0 + y1 + y2 - (a : Int) := IntWalk.i64_in _ (by omega)
          have w4 : IntKind.i64.wrap (y0 + y1 + y2 - (a : Int) - (b : Int)) = y0 + y1 + y2 - (a : Int) - (b : Int) := IntWalk.i64_in _ (by omega)
          clear hs0 hs1 hs2 hd0 hd1 hd2 he0 he1 he2 hy0 hy1 hy2 hk00
          go_wp2_with fail
          refine (HH.out).mono ?_
          rintro e w' ⟨rfl, rfl⟩
          go_wp2_with fail
          refine (HH2.out).mono ?_
          rintro e w' ⟨rfl, rfl⟩
          go_wp2
          go_quiet (fail)
          clear w1 w2 w3 w4
          go_wp2
          go_ret
          exact ⟨ret_i HF.out.symm, _, rfl⟩
    · exfalso
      obtain rfl : k = n := by omega
      have := firstIdx_miss (p := lineP xss (a : Int) (b : Int)) (n := xss.length) (by rw [HN.out]; exact hP.out)
      have h2 := HK1.out
      omega

/-! ### ThirdPoint -/

def thpI (p : Int) (xss : List (List Int)) (a b : Int) : Int := if twoI p xss a b = 0 then thF xss xss.length a.toNat b.toNat else 0

end Go.Proofs.YtmmkmkbpgcbehaaGreat

/-
  What PaschsOf answers. Conditions: those of each theorem.
-/
namespace Go.Proofs.YtmmkmkbpgcbehaaGreat
open Go.RowKit
set_option linter.unusedVariables false
set_option linter.unusedSimpArgs false

def quC (p : Int) (xss : List (List Int)) : Int := if tripB p xss = true then 0 else 1
def quR (p : Int) (xss : List (List Int)) : List (List Int) := if tripB p xss = true then qdR xss else []
theorem quR_small (p : Int) (xss : List (List Int)) : (quR p xss).length ≤ 32768 ∧ tot (quR p xss) ≤ 131072 := by
  unfold quR
  split
  · rename_i h
    have h1 := qdR_len (xss := xss) (by have := (trip_dsg h).1.2.1; omega)
    have h2 := tot_four (xss := qdR xss) (fun q hq => qdR_four hq)
    omega
  · simp [tot_nil]
theorem PaschsOf_small (p : Int) (xss : List (List Int)) : (quR p xss).length ≤ 1048576 ∧ tot (quR p xss) ≤ 1048576 := by
  have := quR_small p xss
  omega
end Go.Proofs.YtmmkmkbpgcbehaaGreat

/-
  identity of the program. Conditions: none.
-/
namespace Go.Proofs.YtmmkmkbpgcbehaaGreat
open Go.RowKit
set_option linter.unusedVariables false
set_option linter.unusedSimpArgs false

def idL (n : Nat) : List Int := (List.range n).map fun (i : Nat) => (i : Int)
theorem idL_len (n : Nat) : (idL n).length = n := by simp [idL]
def idTo (n k : Nat) : List Int := (List.range n).map fun (i : Nat) => if i < k then (i : Int) else 0
theorem idTo_len (n k : Nat) : (idTo n k).length = n := by simp [idTo]
theorem idTo_zero (n : Nat) : idTo n 0 = List.replicate n 0 := by
  apply List.ext_getElem
  · simp [idTo]
  · intro k h1 h2; simp [idTo]
theorem idTo_set {n k : Nat} (hk : k < n) : (idTo n k).set k (k : Int) = idTo n (k + 1) := by
  apply List.ext_getElem
  · simp [idTo]
  · intro j h1 h2
    rw [List.getElem_set]
    simp only [idTo, List.getElem_map, List.getElem_range]
    by_cases e : k = j
    · subst e; rw [if_pos rfl, if_pos (by omega)]
    · rw [if_neg e]
      by_cases h : j < k
      · rw [if_pos h, if_pos (by omega)]
      · rw [if_neg h, if_neg (by omega)]
theorem idTo_all (n : Nat) : idTo n n = idL n := by
  unfold idTo idL
  exact List.map_congr_left fun i hi => if_pos (List.mem_range.1 hi)

set_option maxHeartbeats 1000000 in
theorem identity_c (w : World) (n : Nat) (hn : n ≤ 1048576) : Calls Tryz.prog 37 #[.int .i64 (n : Int)] w (PostS w (idL n)) := by
  have hmk := fun W : World => run_make_row' (P := Tryz.prog) 35 2 (.int .i64 0) 8 Tryz.underlying35 infoI rfl .i64 .i64 n (by omega) (by omega) W
  have HO0 := Lib.hid (show OwnI (w.alloc (.cells (madeCells #[.int .i64 0] n) 2)) w.heap.size (some ⟨w.heap.size, 0, none⟩) n (idTo n 0) by rw [idTo_zero]; exact OwnI.made w n (by unfold maxLen; omega) (Nat.le_refl _))
  have HB0 := Lib.hid ((Below.refl w.heap.size w).alloc (Nat.le_refl _) (.cells (madeCells #[.int .i64 0] n) 2))
  go_enter Tryz.func37, Tryz.ntmps37
  go_wp2
  obtain ⟨g, hg⟩ : ∃ g, g = w.heap.size := ⟨_, rfl⟩
  have hgl : w.heap.size ≤ g := by omega
  rw [← hg]
  have HO1 := Lib.hid (show OwnI (w.alloc (.cells (madeCells #[.int .i64 0] n) 2)) w.heap.size (some ⟨g, 0, none⟩) n (idTo n 0) by rw [hg]; exact HO0.out)
  clear hg hmk HO0
  generalize (w.alloc (.cells (madeCells #[.int .i64 0] n) 2)) = w1 at *
  go_loopw [9] (fun i wr => ∃ k : Nat, k ≤ n ∧ i = .int .i64 k ∧ Hid (OwnI wr w.heap.size (some ⟨g, 0, none⟩) n (idTo n k)) ∧ Hid (Below w.heap.size w wr)) (fun i _ => n - (intOf i).toNat)
  case atStart => exact ⟨0, Nat.zero_le _, rfl, HO1, HB0⟩
  case round =>
    obtain ⟨k, hk, rfl, HO, HB⟩ := hrel
    by_cases hlt : k < n
    · obtain ⟨g1, e1, _, _, hc, hf⟩ := HO.out.at_ (k := k) (by rw [idTo_len]; exact hlt)
      injection e1 with e1
      injection e1 with e1
      subst e1
      have hst := HO.out.stored k (k : Int)
      rw [idTo_set hlt] at hst
      have HO2 := Lib.hid hst
      have HB2 := Lib.hid (HB.out.setCell (p := ⟨g, k, none⟩) hgl (.int .i64 (k : Int)))
      have hk0 : (0 : Int) ≤ (k : Int) := by omega
      have hk1 : (k : Int) < (n : Int) := by omega
      clear hst
      go_wp2
      go_roundw
      case rel => exact ⟨k + 1, by omega, by go_num, HO2, HB2⟩
      case measure => simp [intOf]; omega
    · obtain rfl : k = n := by omega
      have HL := Lib.hid (idL_len k)
      have HOf := Lib.hid (show OwnI wr w.heap.size (some ⟨g, 0, none⟩) k (idL k) by rw [← idTo_all]; exact HO.out)
      go_wp2
      go_ret
      exact ⟨⟨_, k, k, rfl, HL.out, HOf.out⟩, HB.out⟩
end Go.Proofs.YtmmkmkbpgcbehaaGreat

/-
  MeetSets, MinusSets and l10All of the reference, allPoints of the program. Conditions: those of each theorem.
-/
namespace Go.Proofs.YtmmkmkbpgcbehaaGreat
open Go.RowKit
set_option linter.unusedVariables false
set_option linter.unusedSimpArgs false

theorem l01Set_c (w : World) (A : Option Addr) (n c : Nat) (xs : List Int) (hr : RdI w A c xs) (hn : xs.length = n) :
    Calls Tryz.prog 61 #[.slice A n c] w (EndQ (.bool (setB xs 32)) w) := by
  rw [setB_rise (by omega) (by omega), show (32 : Int) - 1 = 31 by omega]
  have HV := Lib.hid (rises_c w A n c xs 0 31 hr hn)
  clear hr hn
  go_enter Tryz.func61, Tryz.ntmps61
  go_wp2_with fail
  refine (HV.out).mono ?_
  rintro e w' ⟨rfl, m, rfl⟩
  go_wp2
  go_ret
  exact ⟨rfl, m, rfl⟩

/-- The first k numbers that pass. -/
def fiTo (f : Int → Bool) (xs : List Int) (k : Nat) : List Int := (xs.take k).filter f
theorem fiTo_succ {f : Int → Bool} {xs : List Int} {k : Nat} (hk : k < xs.length) : fiTo f xs (k + 1) = fiTo f xs k ++ if f (nth xs k) = true then [nth xs k] else [] := by
  unfold fiTo
  rw [List.take_add_one, List.getElem?_eq_getElem hk, List.filter_append, nth_eq hk]
  by_cases h : f xs[k] = true <;> simp [List.filter_cons, h]
theorem fiTo_len (f : Int → Bool) (xs : List Int) (k : Nat) : (fiTo f xs k).length ≤ k := by
  have h1 : (fiTo f xs k).length ≤ (xs.take k).length := List.length_filter_le _ _
  have h2 : (xs.take k).length ≤ k := List.length_take_le _ _
  omega
theorem fiTo_all (f : Int → Bool) (xs : List Int) : fiTo f xs xs.length = xs.filter f := by unfold fiTo; rw [List.take_length]

set_option maxRecDepth 100000 in
set_option maxHeartbeats 4000000 in
theorem l01Both_c (w : World) (A B : Option Addr) (n m c d : Nat) (xs ys : List Int) (hx : RdI w A c xs) (hn : xs.length = n) (hy : RdI w B d ys) (hm : ys.length = m) (h1 : setB xs 32 = true) (h2 : setB ys 32 = true) (b : Bool) :
    Calls Tryz.prog 63 #[.slice A n c, .slice B m d, .bool b] w (PostS w (xs.filter fun z => hasB ys z == b)) := by
  have hn32 : n ≤ 32 := by have := setB_len (P := 32) h1; omega
  have hA := l01Set_c w A n c xs hx hn
  have hB := fun q => l01Set_c (w.drewN q) B m d ys (hy.drewN q) hm
  rw [h1] at hA
  rw [h2] at hB
  have HX := Lib.hid hx
  have HN := Lib.hid hn
  have HHas := Lib.hid (fun (W : World) (hb : Below w.heap.size w W) (x : Int) => has_c W B m d ys x (hy.below hb) hm)
  obtain ⟨f, hf⟩ : ∃ f : Int → Bool, f = fun z => hasB ys z == b := ⟨_, rfl⟩
  have HF := Lib.hid hf
  rw [← hf]
  have HA := Lib.hid hA
  have HB' := Lib.hid hB
  clear hA hB hx hn hy hm h1 h2 hf
  go_enter Tryz.func63, Tryz.ntmps63
  go_wp2_with fail
  refine (HA.out).mono ?_
  rintro e w' ⟨rfl, q1, rfl⟩
  go_wp2_with fail
  refine (HB'.out _).mono ?_
  rintro e w' ⟨rfl, q2, rfl⟩
  rw [World.drewN_drewN]
  have H0 := Lib.hid (OwnI.lit0 (w.drewN (q1 + q2)) (Nat.le_refl w.heap.size))
  have HBz := Lib.hid ((below_drewN (Below.refl w.heap.size w) (q1 + q2)).alloc (Nat.le_refl _) (.cells #[] 2))
  generalize w.drewN (q1 + q2) = w2 at *
  go_wp2
  go_loopw [7, 8] (fun o v wr => ∃ (k s : Nat) (A' : Option Addr) (c' : Nat), k ≤ n ∧ v = .int .i64 k ∧ o = .slice A' s c' ∧ Hid ((fiTo f xs k).length = s) ∧ s ≤ k ∧ Hid (OwnI wr w.heap.size A' c' (fiTo f xs k)) ∧ Hid (Below w.heap.size w wr)) (fun _ v _ => n - (intOf v).toNat)
  case atStart => exact ⟨0, 0, _, _, Nat.zero_le _, rfl, rfl, Lib.hid rfl, Nat.le_refl _, H0, HBz⟩
  case round =>
    obtain ⟨k, s, A', c', hk, rfl, rfl, HS, hsk, HO, HB⟩ := hrel
    have hz := HB.out.size
    by_cases hlt : k < n
    · have hkx : k < xs.length := by rw [HN.out]; exact hlt
      obtain ⟨b0, off, e, hb, hc⟩ := HX.out.at_ k hkx
      subst e
      have hcc := (HB.out.cell (p := ⟨b0, off + k, none⟩) hb).trans hc
      have hSu := fiTo_succ (f := f) hkx
      have hH := HHas.out wr HB.out (nth xs k)
      have hfe : f (nth xs k) = (hasB ys (nth xs k) == b) := by rw [HF.out]
      clear hc
      rcases hv : (hasB ys (nth xs k) == b) with _ | _
      · rw [hfe, hv] at hSu
        simp only [Bool.false_eq_true, if_false, List.append_nil] at hSu
        have HSu := Lib.hid hSu
        have HH := Lib.hid hH
        clear hSu hH hfe
        generalize hasB ys (nth xs k) = p at *
        go_wp2_with fail
        refine (HH.out).mono ?_
        rintro e w' ⟨rfl, rfl⟩
        go_wp2
        go_roundw
        case rel => exact ⟨k + 1, s, A', c', by omega, by go_num, rfl, Lib.hid (by rw [HSu.out]; exact HS.out), by omega, Lib.hid (by rw [HSu.out]; exact HO.out), HB⟩
        case measure => simp [intOf]; omega
      · rw [hfe, hv] at hSu
        simp only [if_true] at hSu
        have HSu := Lib.hid hSu
        have HH := Lib.hid hH
        clear hSu hH hfe
        generalize hasB ys (nth xs k) = p at *
        generalize nth xs k = y at *
        go_wp2_with fail
        refine (HH.out).mono ?_
        rintro e w' ⟨rfl, rfl⟩
        go_wp2_with (at_builtin; refine wpI_append rfl _ _ rfl w.heap.size _ _ _ (fiTo f xs k) (y) wr.heap.size rfl rfl HS.out (HO.out.alloc (.cells #[.int .i64 (y)] 2)) (World.cell?_alloc_at _ _ _ _ rfl) (by omega) (by simp; omega) ?_; intro A3 c3 w3 ho3 hg3 ha3)
        have hB3 : Below w.heap.size w w3 := (HB.out.alloc HB.out.size (.cells #[.int .i64 (y)] 2)).trans (below_blk (HO.out.alloc (.cells #[.int .i64 (y)] 2)) hg3 (Nat.le_refl _) (by simp; omega))
        have HO3 := Lib.hid ho3
        have HB3 := Lib.hid hB3
        clear ho3 hg3 ha3 hB3
        have HS3 := Lib.hid (show (fiTo f xs (k + 1)).length = s + 1 from by rw [HSu.out, List.length_append, HS.out]; rfl)
        have HO4 := Lib.hid (show OwnI w3 w.heap.size A3 c3 (fiTo f xs (k + 1)) from by rw [HSu.out]; exact HO3.out)
        go_wp2
        go_roundw
        case rel => exact ⟨k + 1, s + 1, A3, c3, by omega, by go_num, rfl, HS3, by omega, HO4, HB3⟩
        case measure => simp [intOf]; omega
    · obtain rfl : k = n := by omega
      have HSf := Lib.hid (show (xs.filter f).length = s from by rw [← fiTo_all, HN.out]; exact HS.out)
      have HOf := Lib.hid (show OwnI wr w.heap.size A' c' (xs.filter f) from by rw [← fiTo_all, HN.out]; exact HO.out)
      go_wp2
      go_ret
      exact ⟨⟨A', s, c', rfl, HSf.out, HOf.out⟩, HB.out⟩

theorem specMeetSets_c (w : World) (A B : Option Addr) (n m c d : Nat) (xs ys : List Int) (hx : RdI w A c xs) (hn : xs.length = n) (hy : RdI w B d ys) (hm : ys.length = m) (h1 : setB xs 32 = true) (h2 : setB ys 32 = true) :
    Calls Tryz.prog 44 #[.slice A n c, .slice B m d] w (PostS w (meetL xs ys)) := by
  rw [meetL_eq' h1 h2]
  have HV := l01Both_c w A B n m c d xs ys hx hn hy hm h1 h2 true
  rw [show (xs.filter fun z => hasB ys z == true) = xs.filter (hasB ys) from List.filter_congr (fun z _ => by cases hasB ys z <;> rfl)] at HV
  have HV := Lib.hid HV
  clear hx hn hy hm h1 h2
  go_enter Tryz.func44, Tryz.ntmps44
  go_wp2_with fail
  refine (HV.out).mono ?_
  rintro e w1 ⟨⟨A, k, c, rfl, hk, ho⟩, hb⟩
  have HK := Lib.hid hk
  have HO := Lib.hid ho
  have HB := Lib.hid hb
  clear hk ho hb
  go_wp2
  go_ret
  exact ⟨⟨A, k, c, rfl, HK.out, HO.out⟩, HB.out⟩
theorem specMinusSets_c (w : World) (A B : Option Addr) (n m c d : Nat) (xs ys : List Int) (hx : RdI w A c xs) (hn : xs.length = n) (hy : RdI w B d ys) (hm : ys.length = m) (h1 : setB xs 32 = true) (h2 : setB ys 32 = true) :
    Calls Tryz.prog 30 #[.slice A n c, .slice B m d] w (PostS w (minusL xs ys)) := by
  rw [minusL_eq h1 h2]
  have HV := l01Both_c w A B n m c d xs ys hx hn hy hm h1 h2 false
  rw [show (xs.filter fun z => hasB ys z == false) = xs.filter (fun z => !hasB ys z) from List.filter_congr (fun z _ => by cases hasB ys z <;> rfl)] at HV
  have HV := Lib.hid HV
  clear hx hn hy hm h1 h2
  go_enter Tryz.func30, Tryz.ntmps30
  go_wp2_with fail
  refine (HV.out).mono ?_
  rintro e w1 ⟨⟨A, k, c, rfl, hk, ho⟩, hb⟩
  have HK := Lib.hid hk
  have HO := Lib.hid ho
  have HB := Lib.hid hb
  clear hk ho hb
  go_wp2
  go_ret
  exact ⟨⟨A, k, c, rfl, HK.out, HO.out⟩, HB.out⟩

theorem idL_succ (k : Nat) : idL (k + 1) = idL k ++ [(k : Int)] := by unfold idL; rw [List.range_succ, List.map_append]; rfl
theorem idL_set {P : Nat} (h : P ≤ 32) : setB (idL P) 32 = true := by
  rw [setB_iff]
  refine ⟨?_, fun z hz => ?_, by omega, by omega⟩
  · unfold idL
    rw [List.pairwise_map]
    exact List.pairwise_lt_range.imp (fun h => by omega)
  · unfold idL at hz
    obtain ⟨k, hk, rfl⟩ := List.mem_map.1 hz
    have := List.mem_range.1 hk
    omega
end Go.Proofs.YtmmkmkbpgcbehaaGreat

/-
  Sets of residues: translate, multiply, gcd of the program; l13Move, l13Ask, l02Gcd of the reference; TranslateSet and MultiplySet of both. Conditions: those of each theorem.
-/
namespace Go.Proofs.YtmmkmkbpgcbehaaGreat
open Go.RowKit
set_option linter.unusedVariables false
set_option linter.unusedSimpArgs false

theorem tmod_nat (x y : Nat) : Int.tmod (x : Int) (y : Int) = ((x % y : Nat) : Int) := by
  rw [Int.tmod_eq_emod_of_nonneg (by omega)]
  rfl

/-! ### The sets moved -/
def mvF (N : Nat) (xs : List Int) (t b : Int) (k : Nat) : Int := (nth xs k * t + b).tmod (N : Int)
def mvL (N : Nat) (xs : List Int) (t b : Int) : List Int := putsTo (mvF N xs t b) xs.length

theorem set13_facts {N : Nat} {xs : List Int} (h : Set13 (N : Int) xs) : (1 ≤ N ∧ N ≤ 32) ∧ (∀ k, k < xs.length → 0 ≤ nth xs k ∧ nth xs k ≤ (N : Int) - 1) ∧ (∀ i j, i < j → j < xs.length → nth xs i < nth xs j) ∧ xs.length ≤ 32 := by
  have h1 := rise_len h.2 (by have := h.1; omega)
  refine ⟨⟨by have := h.1; omega, by have := h.1; omega⟩, fun k hk => (h.2 k hk).1, fun i j hij hj => h.2.lt j hj hij, by have := h.1; omega⟩

end Go.Proofs.YtmmkmkbpgcbehaaGreat

/-
  TranslateSet and MultiplySet of both. Conditions: those of each theorem.
-/
namespace Go.Proofs.YtmmkmkbpgcbehaaGreat
open Go.RowKit
set_option linter.unusedVariables false
set_option linter.unusedSimpArgs false

theorem mod_lt_eq {N d : Nat} (h : d % N = 0) (hd : d < N) : d = 0 := by rw [Nat.mod_eq_of_lt hd] at h; exact h
theorem mvF_nat {N : Nat} {xs : List Int} {t b k u : Nat} (hu : nth xs k = (u : Int)) : mvF N xs (t : Int) (b : Int) k = (((u * t + b) % N : Nat) : Int) := by
  unfold mvF
  rw [hu, ← tmod_nat, Int.natCast_add, Int.natCast_mul]
theorem mv_inj {N : Nat} {xs : List Int} (h : Set13 (N : Int) xs) {t b : Nat} (hc : Nat.gcd t N = 1) {i j : Nat} (hij : i < j) (hj : j < xs.length) : mvF N xs (t : Int) (b : Int) i ≠ mvF N xs (t : Int) (b : Int) j := by
  obtain ⟨⟨hN1, hN2⟩, hbd, hlt, _⟩ := set13_facts h
  have h1 := hbd i (by omega)
  have h2 := hbd j hj
  have h3 := hlt i j hij hj
  obtain ⟨u, hu⟩ : ∃ u : Nat, nth xs i = (u : Int) := ⟨(nth xs i).toNat, by omega⟩
  obtain ⟨v, hv⟩ : ∃ v : Nat, nth xs j = (v : Int) := ⟨(nth xs j).toNat, by omega⟩
  rw [mvF_nat hu, mvF_nat hv]
  intro e
  have e' : (u * t + b) % N = (v * t + b) % N := by exact_mod_cast e
  have h4 := Nat.sub_mod_eq_zero_of_mod_eq e'.symm
  have h5 : v * t + b - (u * t + b) = (v - u) * t := by rw [Nat.sub_mul]; omega
  rw [h5] at h4
  have h6 : N ∣ (v - u) * t := Nat.dvd_of_mod_eq_zero h4
  have h7 : N ∣ v - u := Nat.Coprime.dvd_of_dvd_mul_right (by unfold Nat.Coprime; rw [Nat.gcd_comm]; exact hc) h6
  have h8 := Nat.le_of_dvd (by omega) h7
  omega
theorem mv_sort {N : Nat} {xs : List Int} (h : Set13 (N : Int) xs) {t b : Nat} (hc : Nat.gcd t N = 1) : sortL ((List.range xs.length).map (mvF N xs (t : Int) (b : Int))) = mvL N xs (t : Int) (b : Int) :=
  (putsTo_sort fun _ _ hij hj => mv_inj h hc hij hj).symm
theorem mvL_len (N : Nat) (xs : List Int) (t b : Int) : (mvL N xs t b).length ≤ xs.length := putsTo_len _ _

def askC (n : Int) (xs : List Int) (b : Int) : Int := if set13 n xs = false then 1 else if inB b 0 (n - 1) = false then 2 else 0
end Go.Proofs.YtmmkmkbpgcbehaaGreat

/-
  TranslateSet and MultiplySet: contents, and the walks of both sides. Conditions: those of each theorem.
-/
namespace Go.Proofs.YtmmkmkbpgcbehaaGreat
open Go.RowKit
set_option linter.unusedVariables false
set_option linter.unusedSimpArgs false

def trL (n : Int) (xs : List Int) (b : Int) : List Int := if askC n xs b = 0 then mvL n.toNat xs 1 b else []
def muL (n : Int) (xs : List Int) (b : Int) : List Int := if askC n xs b = 0 ∧ Nat.gcd b.toNat n.toNat = 1 then mvL n.toNat xs b 0 else []
def muC (n : Int) (xs : List Int) (b : Int) : Int := if askC n xs b = 0 then (if Nat.gcd b.toNat n.toNat = 1 then 0 else 6) else askC n xs b
theorem askC_zero {n : Int} {xs : List Int} {b : Int} (h : askC n xs b = 0) : Set13 n xs ∧ 0 ≤ b ∧ b ≤ n - 1 := by
  unfold askC at h
  split at h
  · omega
  · next h1 =>
    split at h
    · omega
    · next h2 =>
      have h3 : set13 n xs = true := by simpa using h1
      have h4 : inB b 0 (n - 1) = true := by simpa using h2
      exact ⟨of_decide_eq_true h3, inB_true.1 h4⟩
theorem set13_len {n : Int} {xs : List Int} (h : Set13 n xs) : xs.length ≤ 32 := by
  have h1 := rise_len h.2 (by have := h.1; omega)
  have := h.1
  omega
theorem TranslateSet_small (n : Int) (xs : List Int) (b : Int) : (trL n xs b).length ≤ 1048576 := by
  unfold trL
  split
  · next h => have := mvL_len n.toNat xs 1 b; have := set13_len (askC_zero h).1; omega
  · simp
theorem MultiplySet_small (n : Int) (xs : List Int) (b : Int) : (muL n xs b).length ≤ 1048576 := by
  unfold muL
  split
  · next h => have := mvL_len n.toNat xs b 0; have := set13_len (askC_zero h.1).1; omega
  · simp

end Go.Proofs.YtmmkmkbpgcbehaaGreat

/-
  NextSubset of the program: the next set of the same size, and slices.Clone at []int64. Conditions: those of each theorem.
-/
namespace Go.Proofs.YtmmkmkbpgcbehaaGreat
open Go.RowKit
set_option linter.unusedVariables false
set_option linter.unusedSimpArgs false

set_option maxHeartbeats 400000 in
set_option maxRecDepth 100000 in
theorem Clone_c (w : World) (b off n c : Nat) (xs : List Int) (hr : RdI w (some ⟨b, off, none⟩) c xs) (hn : xs.length = n) (hz : n ≤ 1048576) :
    Calls Tryz.prog 70 #[.slice (some ⟨b, off, none⟩) n c] w (PostS w xs) := by
  have H0 := Lib.hid (OwnI.lit0 w (Nat.le_refl w.heap.size))
  have HR := Lib.hid (hr.below ((Below.refl w.heap.size w).alloc (Nat.le_refl _) (.cells #[] 2)))
  have HN := Lib.hid hn
  have hq : ∀ (w : World) (a : Option Addr) (n c n' c' : Nat), (binOp .eql 35 (.slice a n c) (.slice none n' c')).run Tryz.prog w = .ok (.bool a.isNone) w := fun w a n c n' c' => Lib.run_eql_slice_nil w _ _ a n c n' c' Tryz.underlying35
  clear hr hn
  go_enter Tryz.func70, Tryz.ntmps70
  go_wp2_with (at_builtin
               refine wpI_appendL rfl _ _ rfl w.heap.size _ _ 0 [] (some ⟨b, off, none⟩) n c xs rfl rfl rfl HN.out H0.out HR.out (fun e => nomatch e) (by omega) (by simp) ?_
               intro A' c' w' ho hg ha)
  have HO := Lib.hid ho
  have hB : Below w.heap.size w w' := ((Below.refl _ _).alloc (Nat.le_refl _) _).trans (below_blk H0.out hg (Nat.le_refl _) (by simp))
  clear ho hg ha
  go_wp2
  go_ret
  exact ⟨⟨A', _, c', rfl, by rw [HN.out], HO.out⟩, hB⟩

/-- xs below i, then rising by one from xs[i] + 1, m of them set. -/
def nxL (xs : List Int) (i : Nat) : Nat → List Int
  | 0 => xs
  | m + 1 => (nxL xs i m).set (i + m) (nth xs i + 1 + m)
theorem nxL_len (xs : List Int) (i m : Nat) : (nxL xs i m).length = xs.length := by
  induction m with
  | zero => rfl
  | succ m ih => rw [nxL, List.length_set, ih]

/-- The place of the element that rises: the last with room. -/
def NxAt (n : Int) (xs : List Int) (i : Nat) : Prop := i < xs.length ∧ nth xs i ≠ n - xs.length + i ∧ ∀ t, i < t → t < xs.length → nth xs t = n - xs.length + t
def NxEnd (n : Int) (xs : List Int) : Prop := ∀ t, t < xs.length → nth xs t = n - xs.length + t
def PostNx (w : World) (n : Int) (xs : List Int) (e : Ending) (w' : World) : Prop :=
  ((∃ i A c, NxAt n xs i ∧ e = .returned (.tuple #[.slice A xs.length c, .bool true]) ∧ OwnI w' w.heap.size A c (nxL xs i (xs.length - i))) ∨ (NxEnd n xs ∧ e = .returned (.tuple #[.slice none 0 0, .bool false]))) ∧ Below w.heap.size w w'

end Go.Proofs.YtmmkmkbpgcbehaaGreat

/-
  slices.Clone of a list of int64. Conditions: those of each theorem.
-/
namespace Go.Proofs.YtmmkmkbpgcbehaaGreat
open Go.RowKit
set_option linter.unusedVariables false
set_option linter.unusedSimpArgs false

theorem Clone_n (w : World) (A : Option Addr) (n c : Nat) (xs : List Int) (hr : RdI w A c xs) (hn : xs.length = n) (hz : n ≤ 1048576) :
    Calls Tryz.prog 70 #[.slice A n c] w (PostS w xs) := by
  rcases A with _ | p
  · have hx : xs = [] := by
      rcases Nat.eq_zero_or_pos xs.length with h | h
      · exact List.eq_nil_of_length_eq_zero h
      · obtain ⟨_, _, e, _⟩ := hr.at_ 0 h; cases e
    subst hx
    have hq : ∀ (w : World) (a : Option Addr) (n c n' c' : Nat), (binOp .eql 35 (.slice a n c) (.slice none n' c')).run Tryz.prog w = .ok (.bool a.isNone) w := fun w a n c n' c' => Lib.run_eql_slice_nil w _ _ a n c n' c' Tryz.underlying35
    clear hr hn
    go_enter Tryz.func70, Tryz.ntmps70
    go_wp2
    go_ret
    exact ⟨⟨none, 0, 0, rfl, rfl, OwnI.nil_ _ _⟩, Below.refl _ _⟩
  · have H0 := Lib.hid (OwnI.lit0 w (Nat.le_refl w.heap.size))
    have HR := Lib.hid (hr.below ((Below.refl w.heap.size w).alloc (Nat.le_refl _) (.cells #[] 2)))
    have HN := Lib.hid hn
    have hq : ∀ (w : World) (a : Option Addr) (n c n' c' : Nat), (binOp .eql 35 (.slice a n c) (.slice none n' c')).run Tryz.prog w = .ok (.bool a.isNone) w := fun w a n c n' c' => Lib.run_eql_slice_nil w _ _ a n c n' c' Tryz.underlying35
    clear hr hn
    go_enter Tryz.func70, Tryz.ntmps70
    go_wp2_with (at_builtin
                 refine wpI_appendL rfl _ _ rfl w.heap.size _ _ 0 [] (some p) n c xs rfl rfl rfl HN.out H0.out HR.out (fun e => nomatch e) (by omega) (by simp) ?_
                 intro A' c' w' ho hg ha)
    have HO := Lib.hid ho
    have hB : Below w.heap.size w w' := ((Below.refl _ _).alloc (Nat.le_refl _) _).trans (below_blk H0.out hg (Nat.le_refl _) (by simp))
    clear ho hg ha
    go_wp2
    go_ret
    exact ⟨⟨A', _, c', rfl, by rw [HN.out], HO.out⟩, hB⟩

end Go.Proofs.YtmmkmkbpgcbehaaGreat

/-
  NormalSet: the least translate of a set, of both sides. Conditions: those of each theorem.
-/
namespace Go.Proofs.YtmmkmkbpgcbehaaGreat
open Go.RowKit
set_option linter.unusedVariables false
set_option linter.unusedSimpArgs false

def nmTo (N : Nat) (xs : List Int) : Nat → List Int
  | 0 => xs
  | k + 1 => if cmpL (mvL N xs 1 (k : Int)) (nmTo N xs k) < 0 then mvL N xs 1 (k : Int) else nmTo N xs k
theorem nmTo_len (N : Nat) (xs : List Int) (k : Nat) : (nmTo N xs k).length ≤ xs.length := by
  induction k with
  | zero => exact Nat.le_refl _
  | succ k ih =>
    rw [nmTo]
    split
    · exact mvL_len _ _ _ _
    · exact ih
theorem mv_zero {N : Nat} {xs : List Int} (h : Set13 (N : Int) xs) : mvL N xs 1 0 = xs := by
  obtain ⟨_, hbd, _, _⟩ := set13_facts h
  refine rise_ext (putsTo_rise _ _) h.2.pairwise fun z => ?_
  unfold mvL
  rw [putsTo_mem, mem_nth]
  have he : ∀ j, j < xs.length → mvF N xs 1 0 j = nth xs j := fun j hj => by
    have := hbd j hj
    unfold mvF
    rw [Int.mul_one, Int.add_zero, Int.tmod_eq_emod_of_nonneg (by omega), Int.emod_eq_of_lt (by omega) (by omega)]
  constructor
  · rintro ⟨j, hj, e⟩; exact ⟨j, hj, by rw [← he j hj, e]⟩
  · rintro ⟨j, hj, e⟩; exact ⟨j, hj, by rw [he j hj, e]⟩
theorem nmTo_one {N : Nat} {xs : List Int} (h : Set13 (N : Int) xs) : nmTo N xs 1 = xs := by
  rw [nmTo, nmTo, show ((0 : Nat) : Int) = 0 from rfl, mv_zero h, cmpL_self, if_neg (by omega)]

def nmL (n : Int) (xs : List Int) : List Int := if set13 n xs = true then nmTo n.toNat xs n.toNat else []
def nmC (n : Int) (xs : List Int) : Int := if set13 n xs = true then 0 else 1
theorem NormalSet_small (n : Int) (xs : List Int) : (nmL n xs).length ≤ 1048576 := by
  unfold nmL
  split
  · next h => have := nmTo_len n.toNat xs n.toNat; have := set13_len (of_decide_eq_true h : Set13 n xs); omega
  · simp

end Go.Proofs.YtmmkmkbpgcbehaaGreat

/-
  FamilyLambda: l13Lambda of the reference, familyLambda of the program, and both answers. Conditions: those of each theorem.
-/
namespace Go.Proofs.YtmmkmkbpgcbehaaGreat
open Go.RowKit
set_option linter.unusedVariables false
set_option linter.unusedSimpArgs false

def Same1 (t : List Int) (k : Nat) : Prop := ∀ j, 1 ≤ j → j < k → nth t j = nth t 1
instance (t : List Int) (k : Nat) : Decidable (Same1 t k) := by unfold Same1; exact Nat.decidableBallLT k (fun j _ => 1 ≤ j → nth t j = nth t 1) |> fun d => decidable_of_iff _ ⟨fun h j h1 h2 => h j h2 h1, fun h j h2 h1 => h j h1 h2⟩
def lamI (n : Nat) (sets : List (List Int)) : Int := if n < 2 then -1 else if Same1 (incS n sets sets.length) n then nth (incS n sets sets.length) 1 else -1

theorem lam_lt {n : Nat} {sets : List (List Int)} : lamI n sets < 0 ↔ ¬ 0 ≤ lamI n sets := by omega

def famV (n : Int) (sets : List (List Int)) : Int := if baseB n sets then (if 0 ≤ lamI n.toNat sets then lamI n.toNat sets else 0) else 0
def famC (n : Int) (sets : List (List Int)) : Int := if baseB n sets then (if 0 ≤ lamI n.toNat sets then 0 else 6) else 1
theorem FamilyLambda_small : True := trivial

end Go.Proofs.YtmmkmkbpgcbehaaGreat

/-
  MultipliersOf: the multipliers of a difference set, of both sides; slices.Equal, l00Same. Conditions: those of each theorem.
-/
namespace Go.Proofs.YtmmkmkbpgcbehaaGreat
open Go.RowKit
set_option linter.unusedVariables false
set_option linter.unusedSimpArgs false

set_option maxHeartbeats 1000000 in
theorem equal_c (w : World) {A A' : Option Addr} {n n' c c' : Nat} {xs ys : List Int} (hx : RdI w A c xs) (hy : RdI w A' c' ys) (hn : xs.length = n) (hn' : ys.length = n') :
    Calls Tryz.prog 53 #[.slice A n c, .slice A' n' c'] w (EndQ (.bool (decide (xs = ys))) w) := by
  have hm : n ≤ 9223372036854775807 := by have h1 := hx.le; have h2 := hx.cap; unfold maxLen at h2; omega
  have hm' : n' ≤ 9223372036854775807 := by have h1 := hy.le; have h2 := hy.cap; unfold maxLen at h2; omega
  by_cases hl : n = n'
  · subst hl
    have HX := Lib.hid hx
    have HY := Lib.hid hy
    have HN := Lib.hid hn
    have HN' := Lib.hid hn'
    obtain ⟨T, hT⟩ : ∃ T, T = decide (xs = ys) := ⟨_, rfl⟩
    rw [← hT]
    have HT := Lib.hid (show T = decide (∀ k, k < xs.length → nth xs k = nth ys k) by rw [hT]; exact decide_eq_decide.2 (same_nth (hn.trans hn'.symm)).symm)
    clear hx hy hn hn' hT
    go_enter Tryz.func53, Tryz.ntmps53
    go_wp2
    go_loopw [13] (fun i wr => ∃ k : Nat, k ≤ n ∧ i = .int .i64 k ∧ Qt w wr ∧ Hid (∀ j, j < k → nth xs j = nth ys j)) (fun i _ => n - (intOf i).toNat)
    case atStart => exact ⟨0, Nat.zero_le _, rfl, Qt.refl w, fun j hj => absurd hj (by omega)⟩
    case round =>
      obtain ⟨k, hk, rfl, ⟨m, rfl⟩, HEq⟩ := hrel
      by_cases hlt : k < n
      · obtain ⟨b, off, e, hb, hc⟩ := HX.out.at_ k (by rw [HN.out]; exact hlt)
        obtain ⟨b', off', e', hb', hc'⟩ := HY.out.at_ k (by rw [HN'.out]; exact hlt)
        subst e e'
        have hk0 : (0 : Int) ≤ (k : Int) := by omega
        have hk1 : (k : Int) < (n : Int) := by omega
        by_cases hfg : nth xs k = nth ys k
        · have hne : (nth xs k != nth ys k) = false := by simp [hfg]
          have HE2 := Lib.hid (show ∀ j, j < k + 1 → nth xs j = nth ys j from fun j hj => by
            by_cases e : j = k
            · subst e; exact hfg
            · exact HEq.out j (by omega))
          clear hfg
          go_wp2
          go_quiet (fail)
          go_wp2
          go_roundw
          case rel => exact ⟨k + 1, by omega, by go_num, by first | exact qt2 _ _ _ | exact ⟨_, by rw [World.drewN_drewN]⟩ | exact ⟨_, rfl⟩, HE2⟩
          case measure => simp [intOf]; omega
        · have hne : (nth xs k != nth ys k) = true := by simp [hfg]
          have HF := Lib.hid (show T = false by rw [HT.out]; exact decide_eq_false fun h => hfg (h k (by rw [HN.out]; exact hlt)))
          clear hfg
          go_wp2
          go_quiet (fail)
          go_wp2
          go_ret
          exact ⟨ret_b HF.out.symm, by first | exact qt2 _ _ _ | exact ⟨_, by rw [World.drewN_drewN]⟩ | exact ⟨_, rfl⟩⟩
      · obtain rfl : k = n := by omega
        have HF := Lib.hid (show T = true by rw [HT.out]; exact decide_eq_true (by rw [HN.out]; exact HEq.out))
        go_wp2
        go_ret
        exact ⟨ret_b HF.out.symm, m, rfl⟩
  · have hd : ((n : Int) != (n' : Int)) = true := by rw [bne_iff_ne]; omega
    have hd2 : (n != n') = true := by rw [bne_iff_ne]; exact hl
    rw [decide_eq_false (fun e => hl (by rw [← hn, ← hn', e]))]
    clear hx hy hn hn'
    go_enter Tryz.func53, Tryz.ntmps53
    go_wp2
    go_ret
    exact ⟨rfl, 0, rfl⟩
theorem RdM.lit1 {w : World} {A : Option Addr} {c n : Nat} {xs : List Int} (hr : RdI w A c xs) (hn : xs.length = n) : RdM (w.alloc (.cells #[.slice A n c] 35)) (some ⟨w.heap.size, 0, none⟩) 1 (fun _ => (A, c)) [xs] :=
  ⟨by simp, by unfold maxLen; omega, fun k hk => by
    obtain rfl : k = 0 := by simp at hk; omega
    refine ⟨w.heap.size, 0, rfl, by simp, ?_⟩
    show _ = some (Value.slice A xs.length c)
    rw [hn]
    simp [go_sem], fun k hk => by
    obtain rfl : k = 0 := by simp at hk; omega
    exact hr.below ((Below.refl _ _).alloc (Nat.le_refl _) _)⟩
theorem mv_set13 {N : Nat} {xs : List Int} (h : Set13 (N : Int) xs) (t b : Nat) : Set13 (N : Int) (mvL N xs (t : Int) (b : Int)) := by
  obtain ⟨⟨hN1, hN2⟩, hbd, _, _⟩ := set13_facts h
  refine ⟨h.1, rise_of (putsTo_rise _ _) fun z hz => ?_⟩
  obtain ⟨j, hj, e⟩ := putsTo_mem.1 hz
  have h1 := hbd j hj
  obtain ⟨u, hu⟩ : ∃ u : Nat, nth xs j = (u : Int) := ⟨(nth xs j).toNat, by omega⟩
  rw [mvF_nat hu] at e
  have := Nat.mod_lt (u * t + b) (show 0 < N by omega)
  omega

/-- t does not change the least translate. -/
def mulB (N : Nat) (xs : List Int) (t : Nat) : Bool := decide (Nat.gcd t N = 1 ∧ nmTo N (mvL N xs (t : Int) 0) N = nmTo N xs N)
def mulTo (N : Nat) (xs : List Int) (k : Nat) : List Int := ((List.range k).filter fun t => decide (1 ≤ t) && mulB N xs t).map fun (t : Nat) => (t : Int)
theorem mulTo_succ (N : Nat) (xs : List Int) {k : Nat} (hk : 1 ≤ k) : mulTo N xs (k + 1) = mulTo N xs k ++ if mulB N xs k = true then [(k : Int)] else [] := by
  unfold mulTo
  rw [List.range_succ, List.filter_append, List.map_append]
  congr 1
  rcases hb : mulB N xs k with _ | _
  · simp [hb]
  · simp [hb, hk]
theorem mulTo_one (N : Nat) (xs : List Int) : mulTo N xs 1 = [] := by simp [mulTo, List.range_succ]
theorem mulTo_len (N : Nat) (xs : List Int) (k : Nat) : (mulTo N xs k).length ≤ k := by
  unfold mulTo
  rw [List.length_map]
  exact Nat.le_trans (List.length_filter_le _ _) (by simp)
def mlOk (n : Int) (xs : List Int) : Prop := set13 n xs = true ∧ xs ≠ []
instance (n : Int) (xs : List Int) : Decidable (mlOk n xs) := by unfold mlOk; infer_instance
def mlL (n : Int) (xs : List Int) : List Int := if mlOk n xs ∧ 0 ≤ lamI n.toNat [xs] then mulTo n.toNat xs n.toNat else []
def mlC (n : Int) (xs : List Int) : Int := if mlOk n xs then (if 0 ≤ lamI n.toNat [xs] then 0 else 6) else 1
theorem MultipliersOf_small (n : Int) (xs : List Int) : (mlL n xs).length ≤ 1048576 := by
  unfold mlL
  split
  · next h =>
    have h1 := mulTo_len n.toNat xs n.toNat
    have h2 := (of_decide_eq_true h.1.1 : Set13 n xs).1
    omega
  · simp
theorem sets1 {N : Nat} {xs : List Int} (h : Set13 (N : Int) xs) (h0 : xs ≠ []) : SetsOk N [xs] := by
  have h1 := (set13_facts h).1
  refine ⟨h1.1, h1.2, fun i hi => ?_⟩
  obtain rfl : i = 0 := by simp at hi; omega
  exact ⟨h.2, List.length_pos_iff.2 h0⟩

end Go.Proofs.YtmmkmkbpgcbehaaGreat

/-
  Permutations: the plain law, l04Ok of the reference, ValidPermutation of the program. Conditions: those of each theorem.
-/
namespace Go.Proofs.YtmmkmkbpgcbehaaGreat
open Go.RowKit
set_option linter.unusedVariables false
set_option linter.unusedSimpArgs false

theorem quiet_n {f : FuncId} {args : Array Value} {w : World} {n : Nat} {v : Value} (h : Calls Tryz.prog f args (w.drewN n) fun e w' => e = .returned v ∧ w.drewN n = w') :
    Calls Tryz.prog f args (w.drewN n) fun e w' => e = .returned v ∧ ∃ m, w' = w.drewN m :=
  h.mono fun _ _ ⟨he, hm⟩ => ⟨he, n, hm.symm⟩
theorem putL_len_mem {xs : List Int} {v : Int} (h : xs.Pairwise (· < ·)) (hv : v ∈ xs) : putL xs v = xs := by
  induction xs with
  | nil => simp at hv
  | cons x xs ih =>
    have h' := List.pairwise_cons.1 h
    rcases putL_cons x v xs with ⟨h1, e⟩ | ⟨h1, e⟩ | ⟨h1, e⟩
    · rw [e]
      rcases List.mem_cons.1 hv with rfl | hv
      · omega
      · rw [ih h'.2 hv]
    · rcases List.mem_cons.1 hv with rfl | hv
      · omega
      · have := h'.1 v hv; omega
    · exact e
theorem putsTo_inj {f : Nat → Int} {k : Nat} (h : (putsTo f k).length = k) : ∀ i j, i < j → j < k → f i ≠ f j := by
  induction k with
  | zero => intro i j _ hj; omega
  | succ k ih =>
    rw [putsTo] at h
    have h1 := putL_length (putsTo f k) (f k)
    have h2 := putsTo_len f k
    have hk : (putsTo f k).length = k := by omega
    intro i j hij hj e
    by_cases ej : j = k
    · subst ej
      have hm : f j ∈ putsTo f j := putsTo_mem.2 ⟨i, hij, e⟩
      rw [putL_len_mem (putsTo_rise f j) hm] at h
      omega
    · exact ih hk i j hij (by omega) e
theorem inj_nodup {xs : List Int} : (∀ i j, i < j → j < xs.length → nth xs i ≠ nth xs j) ↔ xs.Nodup := by
  unfold List.Nodup
  rw [List.pairwise_iff_getElem]
  constructor
  · intro h i j hi hj hij e
    exact h i j hij hj (by rw [nth_eq hi, nth_eq hj]; exact e)
  · intro h i j hij hj e
    exact h i j (by omega) hj hij (by rw [nth_eq (by omega), nth_eq hj] at e; exact e)
theorem rise_full {xs : List Int} {b : Nat} (h : xs.Pairwise (· < ·)) (hb : ∀ x ∈ xs, 0 ≤ x ∧ x < (b : Int)) (hl : xs.length = b) : xs = idL b := by
  refine rise_ext h ?_ fun z => ?_
  · unfold idL
    rw [List.pairwise_map]
    exact (List.pairwise_lt_range (n := b)).imp fun h => by omega
  · have hn : xs.Nodup := h.imp fun h => by omega
    have h2 := (nodup_full hn hb).1 hl
    constructor
    · intro hz
      have := hb z hz
      exact List.mem_map.2 ⟨z.toNat, List.mem_range.2 (by omega), by omega⟩
    · intro hz
      obtain ⟨i, hi, e⟩ := List.mem_map.1 hz
      rw [← e]
      exact h2 i (List.mem_range.1 hi)
theorem nth_range {xs : List Int} : (List.range xs.length).map (nth xs) = xs := by
  apply List.ext_getElem
  · simp
  · intro k h1 h2; simp [nth, h2]
/-- The program sorts; the reference counts. -/
theorem res_same {xs : List Int} {b : Nat} (hb : ∀ x ∈ xs, 0 ≤ x ∧ x < (b : Int)) : sortL xs = idL b ↔ xs.length = b ∧ (putsTo (nth xs) xs.length).length = xs.length := by
  constructor
  · intro h
    have hl : xs.length = b := by rw [← sortL_len, h, idL_len]
    refine ⟨hl, ?_⟩
    have hn : xs.Nodup := by
      refine (List.mergeSort_perm xs (fun x y => decide (x ≤ y))).nodup_iff.1 ?_
      show (sortL xs).Nodup
      rw [h]
      unfold idL List.Nodup
      rw [List.pairwise_map]
      exact (List.pairwise_lt_range (n := b)).imp fun h => by omega
    rw [putsTo_sort (inj_nodup.2 hn), nth_range, sortL_len]
  · rintro ⟨hl, h⟩
    have hn := inj_nodup.1 (putsTo_inj h)
    exact rise_full (sortL_rise hn) (fun x hx => hb x (sortL_mem.1 hx)) (by rw [sortL_len, hl])

theorem idL_mem {n : Nat} {z : Int} : z ∈ idL n ↔ 0 ≤ z ∧ z < (n : Int) := by
  unfold idL
  rw [List.mem_map]
  constructor
  · rintro ⟨k, hk, rfl⟩
    have := List.mem_range.1 hk
    omega
  · rintro ⟨h1, h2⟩
    exact ⟨z.toNat, List.mem_range.2 (by omega), by omega⟩
theorem RdI.take_ {w : World} {A : Option Addr} {c : Nat} {xs : List Int} (h : RdI w A c xs) (k : Nat) : RdI w A c (xs.take k) := by
  refine ⟨Nat.le_trans (by rw [List.length_take]; omega) h.le, h.cap, fun j hj => ?_⟩
  have hj2 : j < k ∧ j < xs.length := by rw [List.length_take] at hj; omega
  obtain ⟨b, off, e, hb, hc⟩ := h.at_ j hj2.2
  exact ⟨b, off, e, hb, by rw [hc]; simp [nth, hj2.1]⟩
/-- What the reference asks of each number. -/
def okAt (p : List Int) (i : Nat) : Prop := (0 ≤ nth p i ∧ nth p i ≤ (p.length : Int) - 1) ∧ hasB (p.take i) (nth p i) = false
def permB (p : List Int) : Bool := decide (p.length ≤ 32 ∧ sortL p = idL p.length)
theorem take_mem {p : List Int} {i : Nat} (hi : i < p.length) {z : Int} : z ∈ p.take i ↔ ∃ j, j < i ∧ nth p j = z := by
  rw [mem_nth]
  constructor
  · rintro ⟨j, hj, e⟩
    rw [List.length_take] at hj
    refine ⟨j, by omega, ?_⟩
    rw [← e]
    simp [nth, show j < i by omega]
  · rintro ⟨j, hj, e⟩
    refine ⟨j, by rw [List.length_take]; omega, ?_⟩
    rw [← e]
    simp [nth, hj]
theorem perm_facts {p : List Int} (h : sortL p = idL p.length) : (∀ x ∈ p, 0 ≤ x ∧ x < (p.length : Int)) ∧ (∀ i j, i < j → j < p.length → nth p i ≠ nth p j) := by
  have hb : ∀ x ∈ p, 0 ≤ x ∧ x < (p.length : Int) := fun x hx => idL_mem.1 (by rw [← h]; exact sortL_mem.2 hx)
  refine ⟨hb, ?_⟩
  have := (res_same hb).1 h
  exact putsTo_inj this.2
theorem perm_iff {p : List Int} : permB p = true ↔ p.length ≤ 32 ∧ ∀ i, i < p.length → okAt p i := by
  unfold permB
  rw [decide_eq_true_eq]
  constructor
  · rintro ⟨h1, h2⟩
    obtain ⟨hb, hi⟩ := perm_facts h2
    refine ⟨h1, fun i hip => ⟨?_, ?_⟩⟩
    · have := hb (nth p i) (mem_nth.2 ⟨i, hip, rfl⟩)
      omega
    · rw [hasB_false, take_mem hip]
      rintro ⟨j, hj, e⟩
      exact hi j i hj hip e
  · rintro ⟨h1, h2⟩
    refine ⟨h1, ?_⟩
    have hb : ∀ x ∈ p, 0 ≤ x ∧ x < (p.length : Int) := fun x hx => by
      obtain ⟨i, hi, e⟩ := mem_nth.1 hx
      have := (h2 i hi).1
      omega
    have hn : p.Nodup := inj_nodup.1 fun i j hij hj e => by
      have := hasB_false.1 (h2 j hj).2
      exact this ((take_mem hj).2 ⟨i, hij, e⟩)
    exact rise_full (sortL_rise hn) (fun x hx => hb x (sortL_mem.1 hx)) (sortL_len p)
theorem perm_no {p : List Int} {i : Nat} (hi : i < p.length) (h : ¬ okAt p i) : permB p = false := by
  rcases e : permB p with _ | _
  · rfl
  · exact absurd ((perm_iff.1 e).2 i hi) h
theorem idL_nth {n k : Nat} (hk : k < n) : nth (idL n) k = (k : Int) := by simp [nth, idL, hk]
theorem id_ext {xs : List Int} {n : Nat} (hl : xs.length = n) (h : ∀ k, k < n → nth xs k = (k : Int)) : xs = idL n := by
  apply List.ext_getElem
  · rw [hl, idL_len]
  · intro k h1 h2
    have := h k (by omega)
    rw [nth_eq h1] at this
    rw [this]
    simp [idL]
end Go.Proofs.YtmmkmkbpgcbehaaGreat

/-
  ValidResolution of both sides; identity. Conditions: those of each theorem.
-/
namespace Go.Proofs.YtmmkmkbpgcbehaaGreat
open Go.RowKit
set_option linter.unusedVariables false
set_option linter.unusedSimpArgs false

/-! ### The plain law -/
def flatTo (cls : List (List Int)) (k : Nat) : List Int := (cls.take k).flatten
theorem flatTo_zero (cls : List (List Int)) : flatTo cls 0 = [] := by simp [flatTo]
theorem flatTo_succ {cls : List (List Int)} {k : Nat} (h : k < cls.length) : flatTo cls (k + 1) = flatTo cls k ++ row cls k := by
  unfold flatTo
  rw [take_row h, List.flatten_append]
  simp
theorem flatTo_len (cls : List (List Int)) (k : Nat) : (flatTo cls k).length = tot (cls.take k) := by simp [flatTo, tot, List.length_flatten]
def resOk (P : Nat) (xss cls : List (List Int)) : Prop := (∀ k, k < cls.length → classB P xss (row cls k) = true) ∧ sortL (flatTo cls cls.length) = idL xss.length
instance (P : Nat) (xss cls : List (List Int)) : Decidable (resOk P xss cls) := by unfold resOk; infer_instance
def resB (p : Int) (xss cls : List (List Int)) : Bool := dsgB p xss && decide (resOk p.toNat xss cls)
theorem class_in {P : Nat} {xss : List (List Int)} {c : List Int} (h : classB P xss c = true) : ∀ x ∈ c, 0 ≤ x ∧ x < (xss.length : Int) := fun x hx => by
  have h1 := (of_decide_eq_true h : ClassOk P xss c).1.mem hx
  omega
theorem flat_in {P : Nat} {xss cls : List (List Int)} {k : Nat} (hk : k ≤ cls.length) (h : ∀ j, j < k → classB P xss (row cls j) = true) : ∀ x ∈ flatTo cls k, 0 ≤ x ∧ x < (xss.length : Int) := by
  induction k with
  | zero => rw [flatTo_zero]; intro x hx; simp at hx
  | succ k ih =>
    rw [flatTo_succ (by omega)]
    intro x hx
    rcases List.mem_append.1 hx with hx | hx
    · exact ih (by omega) (fun j hj => h j (by omega)) x hx
    · exact class_in (h k (by omega)) x hx
end Go.Proofs.YtmmkmkbpgcbehaaGreat

/-
  What lies in Bth, together with the texts of resolutions. Conditions: none.
-/
namespace Go.Proofs.YtmmkmkbpgcbehaaGreat
set_option linter.unusedVariables false
set_option linter.unusedSimpArgs false
end Go.Proofs.YtmmkmkbpgcbehaaGreat
