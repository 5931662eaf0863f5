/-
  The third point of two points: thirdPoints of the program, l11Third, l11Two of the reference, ThirdPoint of both. Conditions: those of each theorem.
-/
import Derived.Test.YtmmkmkbpgcbehaaGreatThirdP
import Derived.Test.YtmmkmkbpgcbehaaGreatZer
namespace Go.Proofs.YtmmkmkbpgcbehaaGreat
open Go.RowKit
set_option linter.unusedVariables false
set_option linter.unusedSimpArgs false

def diaF (k x y : Nat) : Int := if x = y ∧ x < k then (x : Int) else 0
theorem diaF_succ (k : Nat) : upd (diaF k) k k (k : Int) = diaF (k + 1) := by
  funext x y
  unfold upd diaF
  by_cases e : x = k ∧ y = k
  · obtain ⟨rfl, rfl⟩ := e
    rw [if_pos ⟨rfl, rfl⟩, if_pos ⟨rfl, by omega⟩]
  · rw [if_neg e]
    by_cases h : x = y ∧ x < k
    · rw [if_pos h, if_pos ⟨h.1, by omega⟩]
    · rw [if_neg h, if_neg (by omega)]
theorem diaF_all {P : Nat} (xss : List (List Int)) : sqTo (diaF P) P P = sqTo (thF xss 0) P P := sqTo_congr fun x y hx hy => by
  unfold diaF thF
  by_cases e : x = y
  · rw [if_pos ⟨e, hx⟩, if_pos e]
  · rw [if_neg (by omega), if_neg e, if_pos (by rw [firstIdx_miss (fun j hj => absurd hj (by omega))]; omega)]

set_option maxHeartbeats 8000000 in
theorem thirdPoints_c (w : World) (P : Nat) (A : Option Addr) (n c : Nat) (R : Spine) (xss : List (List Int)) (hr : RdM w A c R xss) (hn : xss.length = n) (hD : DsgOk (P : Int) xss) (hT : TripSys P xss) :
    Calls Tryz.prog 49 #[.agg #[.int .i64 (P : Int), .slice A n c]] w (PostM w (sqTo (thF xss xss.length) P P)) := by
  have hP1 : 1 ≤ P := by have := hD.1.1; omega
  have hP2 : P ≤ 32 := by have := hD.1.2; omega
  have hn1 : n ≤ 128 := by have := hD.2.1; omega
  have hB0 := below_boxed w (.cells #[.int .i64 (P : Int), .slice A n c] 28)
  have hX := BoxD.made w (P : Int) A n c 28
  have HR := Lib.hid hr
  have HN := Lib.hid hn
  have HTr := Lib.hid hT
  have HX := Lib.hid hX
  have HB0 := Lib.hid hB0
  have hc0 := hX.c0
  rw [hn]
  clear hB0 hX hr hn hD hT
  go_enter Tryz.func49, Tryz.ntmps49
  go_wp2_with fail
  refine (emptySquare_c _ P (by omega)).mono ?_
  rintro e w1 ⟨⟨A3, n3, c3, R3, rfl, hn3, ho3⟩, hb3⟩
  obtain rfl : n3 = P := by rw [length_sqTo] at hn3; exact hn3.symm
  obtain ⟨G3, eA3, _, _, _, _⟩ := ho3.at_ (k := 0) (by rw [length_sqTo]; omega)
  subst eA3
  have HO0 := Lib.hid (show OwnM w1 (w.heap.size + 1) (some ⟨G3, 0, none⟩) c3 R3 (sqTo (diaF 0) n3 n3) from by
    have h := ho3.lower (lo' := w.heap.size + 1) (by simp)
    rwa [show sqTo (fun _ _ => (0 : Int)) n3 n3 = sqTo (diaF 0) n3 n3 from sqTo_congr fun x y _ _ => by unfold diaF; rw [if_neg (by omega)]] at h)
  have HB1 := Lib.hid (HB0.out.trans (hb3.mono (by simp)))
  have hsz1 : w.heap.size + 1 ≤ w1.heap.size := by have := hb3.size; simpa using this
  have HC1 := Lib.hid (HX.out.below hb3)
  clear hc0 hn3 ho3 hb3
  go_wp2
  go_loopw [16] (fun i wr => ∃ x : Nat, x ≤ n3 ∧ i = .int .i64 x ∧ Hid (OwnM wr (w.heap.size + 1) (some ⟨G3, 0, none⟩) c3 R3 (sqTo (diaF x) n3 n3)) ∧ Hid (Below (w.heap.size + 1) w1 wr)) (fun i _ => n3 - (intOf i).toNat)
  case atStart => exact ⟨0, Nat.zero_le _, rfl, HO0, Below.refl _ _⟩
  case round =>
    obtain ⟨x, hx, rfl, HO, HB⟩ := hrel
    by_cases hlt : x < n3
    · obtain ⟨g, g', C, eg, hg1, hg2, hfz, hlo, hgs, hset⟩ := HO.out.sq_at (i := x) (j := x) hlt hlt
      have hset' := hset (x : Int)
      rw [diaF_succ] at hset'
      have HO2 := Lib.hid hset'
      have HB2 := Lib.hid (HB.out.setCell (p := ⟨g', x, none⟩) hlo (.int .i64 (x : Int)))
      clear hset hset'
      injection eg with eg
      injection eg with eg
      subst eg
      go_wp2
      go_roundw
      case rel => exact ⟨x + 1, by omega, by go_num, HO2, HB2⟩
      case measure => simp [intOf]; omega
    · obtain rfl : x = n3 := by omega
      have HOa := Lib.hid (show OwnM wr (w.heap.size + 1) (some ⟨G3, 0, none⟩) c3 R3 (sqTo (thF xss 0) x x) from by rw [← diaF_all]; exact HO.out)
      have hbx := HC1.out.step (lo := w.heap.size + 1) (by omega) HB.out
      have hc1 := hbx.c1
      obtain ⟨wo, hwo⟩ : ∃ wo, wo = wr := ⟨_, rfl⟩
      rw [← hwo] at HB HOa hc1 ⊢
      clear hwo hbx
      go_wp2
      clear hc1
      go_loopw [30] (fun i wr => ∃ k : Nat, k ≤ n ∧ i = .int .i64 k ∧ Hid (OwnM wr (w.heap.size + 1) (some ⟨G3, 0, none⟩) c3 R3 (sqTo (thF xss k) x x)) ∧ Hid (Below (w.heap.size + 1) w1 wr)) (fun i _ => n - (intOf i).toNat)
      case atStart => exact ⟨0, Nat.zero_le _, rfl, HOa, HB⟩
      case round =>
        obtain ⟨k, hk, rfl, HO, HB⟩ := hrel
        by_cases hltk : k < n
        · have hkx : k < xss.length := by rw [HN.out]; exact hltk
          obtain ⟨b, off, e, hb, hc⟩ := HR.out.at_ k hkx
          subst e
          have HBw := Lib.hid (HB1.out.trans (HB.out.mono (by omega)))
          have hcc := (HBw.out.cell (p := ⟨b, off + k, none⟩) hb).trans hc
          obtain ⟨s, hs⟩ : ∃ s, s = row xss k := ⟨_, rfl⟩
          have hrs := HR.out.rows k hkx
          have h3 := HTr.out.three k hkx
          have hsB := HTr.out.rows k hkx
          rw [← hs] at hcc hrs h3 hsB
          rw [h3] at hcc
          have HS := Lib.hid hs
          have HRs := Lib.hid hrs
          have H3 := Lib.hid h3
          have HSB := Lib.hid hsB
          clear hc hs hrs h3 hsB
          obtain ⟨b1, o1, e1, hb1, hv0⟩ := HRs.out.at_ 0 (by rw [H3.out]; omega)
          obtain ⟨_, _, e2, _, hv1⟩ := HRs.out.at_ 1 (by rw [H3.out]; omega)
          obtain ⟨_, _, e3, _, hv2⟩ := HRs.out.at_ 2 (by rw [H3.out]; omega)
          rw [e1] at e2 e3 hcc
          injection e2 with e2
          injection e2 with e2 e4
          subst e2 e4
          injection e3 with e3
          injection e3 with e3 e4
          subst e3 e4
          have HV := Lib.hid (show ∀ i, i < 3 → w.cell? ⟨b1, o1 + i, none⟩ = some (.int .i64 ((sN s i : Nat) : Int)) from fun i hi => by
            have h := (three_sN HSB.out H3.out hi).2.1
            rcases (show i = 0 ∨ i = 1 ∨ i = 2 by omega) with rfl | rfl | rfl
            · rw [hv0, h]
            · rw [hv1, h]
            · rw [hv2, h])
          clear hv0 hv1 hv2 e1
          have HOk := Lib.hid (show OwnM wr (w.heap.size + 1) (some ⟨G3, 0, none⟩) c3 R3 (sqTo (thI xss s k 0) x x) from by rw [thI_zero]; exact HO.out)
          obtain ⟨wo2, hwo2⟩ : ∃ wo2, wo2 = wr := ⟨_, rfl⟩
          rw [← hwo2] at HB HOk hcc ⊢
          clear hwo2
          go_wp2
          go_loopw [36] (fun i wr => ∃ i0 : Nat, i0 ≤ 3 ∧ i = .int .i64 i0 ∧ Hid (OwnM wr (w.heap.size + 1) (some ⟨G3, 0, none⟩) c3 R3 (sqTo (thI xss s k i0) x x)) ∧ Hid (Below (w.heap.size + 1) w1 wr)) (fun i _ => 3 - (intOf i).toNat)
          case atStart => exact ⟨0, by omega, rfl, HOk, HB⟩
          case round =>
            obtain ⟨i, hi, rfl, HO2, HB2⟩ := hrel
            by_cases hlt3 : i < 3
            · obtain ⟨haP, _, hn1', hn2', hn3', _, _⟩ := three_sN HSB.out H3.out hlt3
              have hbP := (three_sN HSB.out H3.out (i := (i + 1) % 3) (by omega)).1
              have hcP := (three_sN HSB.out H3.out (i := (i + 2) % 3) (by omega)).1
              have hsu := thI_succ (xss := xss) HSB.out H3.out k hlt3
              have hva := (HB1.out.trans (HB2.out.mono (by omega))).cell (p := ⟨b1, o1 + i, none⟩) hb1
              have hvb := (HB1.out.trans (HB2.out.mono (by omega))).cell (p := ⟨b1, o1 + (i + 1) % 3, none⟩) hb1
              have hvc := (HB1.out.trans (HB2.out.mono (by omega))).cell (p := ⟨b1, o1 + (i + 2) % 3, none⟩) hb1
              rw [HV.out i hlt3] at hva
              rw [HV.out ((i + 1) % 3) (by omega)] at hvb
              rw [HV.out ((i + 2) % 3) (by omega)] at hvc
              obtain ⟨a, ha⟩ : ∃ a, a = sN s i := ⟨_, rfl⟩
              obtain ⟨u, hu⟩ : ∃ u, u = sN s ((i + 1) % 3) := ⟨_, rfl⟩
              obtain ⟨v, hv⟩ : ∃ v, v = sN s ((i + 2) % 3) := ⟨_, rfl⟩
              rw [← ha] at hva haP hsu hn1' hn2'
              rw [← hu] at hvb hbP hsu hn1' hn3'
              rw [← hv] at hvc hcP hsu hn2' hn3'
              have HSu := Lib.hid hsu
              have HN3 := Lib.hid hn3'
              have ha0 : (0 : Int) ≤ (a : Int) := by omega
              have ha1 : (a : Int) < (x : Int) := by omega
              have hu0 : (0 : Int) ≤ (u : Int) := by omega
              have hu1 : (u : Int) < (x : Int) := by omega
              have hv0 : (0 : Int) ≤ (v : Int) := by omega
              have hv1 : (v : Int) < (x : Int) := by omega
              clear ha hu hv hn1' hn2' hn3' hsu
              have HHi := Lib.hid hlt3
              rcases (show i = 0 ∨ i = 1 ∨ i = 2 by omega) with rfl | rfl | rfl
              all_goals
                simp only [Nat.reduceAdd, Nat.reduceMod, Nat.add_zero] at hva hvb hvc
                go_wp2
                go_quiet (fail)
                have HOq := Lib.hid (HO2.out.drewN nq)
                have HBq := Lib.hid (below_drewN HB2.out nq)
                clear hva hvb hvc
                generalize wr.drewN nq = wq at *
                obtain ⟨g, g', eg, er, hlo, hgs, hg1, hg2⟩ := HOq.out.sq_row (i := a) haP (by omega)
                obtain ⟨hq1, hf1⟩ := hg2 u hbP
                obtain ⟨hq2, hf2⟩ := hg2 v hcP
                have hst1 := (HOq.out.sq_store haP hbP er (v : Int)).sq_store haP hcP er (u : Int)
                have hst2 := (HOq.out.sq_store haP hcP er (u : Int)).sq_store haP hbP er (v : Int)
                rw [HSu.out] at hst1
                rw [upd_comm _ (.inr HN3.out.symm), HSu.out] at hst2
                have HO3 := Lib.hid hst1
                have HO4 := Lib.hid hst2
                have HB3 := Lib.hid ((HBq.out.setCell (p := ⟨g', u, none⟩) hlo (.int .i64 (v : Int))).setCell (p := ⟨g', v, none⟩) hlo (.int .i64 (u : Int)))
                have HB4 := Lib.hid ((HBq.out.setCell (p := ⟨g', v, none⟩) hlo (.int .i64 (u : Int))).setCell (p := ⟨g', u, none⟩) hlo (.int .i64 (v : Int)))
                have hs1 := (show (wq.setCell ⟨g', u, none⟩ (.int .i64 (v : Int))).cell? ⟨g', v, none⟩ = wq.cell? ⟨g', v, none⟩ from World.cell?_setCell_other _ _ _ _ (by intro e'; injection e' with e1 e2; exact HN3.out (by omega))).trans hq2
                have hs2 := (show (wq.setCell ⟨g', v, none⟩ (.int .i64 (u : Int))).cell? ⟨g', u, none⟩ = wq.cell? ⟨g', u, none⟩ from World.cell?_setCell_other _ _ _ _ (by intro e'; injection e' with e1 e2; exact HN3.out (by omega))).trans hq1
                clear hst1 hst2 hg2 er
                injection eg with eg
                injection eg with eg
                subst eg
                go_wp2
                go_region
                all_goals go_wp2
                all_goals go_roundw
                case rel => first | exact ⟨_, by have := HHi.out; omega, by go_num, HO3, HB3⟩ | exact ⟨_, by have := HHi.out; omega, by go_num, HO4, HB4⟩ | exact ⟨_, by have := HHi.out; omega, by go_num, Lib.hid HO3.out.drew, Lib.hid HB3.out.drew⟩ | exact ⟨_, by have := HHi.out; omega, by go_num, Lib.hid HO4.out.drew, Lib.hid HB4.out.drew⟩
                case measure => simp [intOf]
            · obtain rfl : i = 3 := by omega
              have HOn := Lib.hid (show OwnM wr (w.heap.size + 1) (some ⟨G3, 0, none⟩) c3 R3 (sqTo (thF xss (k + 1)) x x) from by
                rw [sqTo_congr (g := thI xss s k 3) (fun a b ha hb => by rw [HS.out]; exact (thI_all HTr.out hkx ha hb).symm)]
                exact HO2.out)
              go_wp2
              go_roundw
              case rel => exact ⟨k + 1, by omega, by go_num, HOn, HB2⟩
              case measure => simp [intOf]; omega
        · obtain rfl : k = n := by omega
          have HOf := Lib.hid (HO.out.lower (lo' := w.heap.size) (by omega))
          have HBf := Lib.hid (HB1.out.trans (HB.out.mono (by omega)))
          have HLn := Lib.hid (length_sqTo (thF xss k) x x)
          go_wp2
          go_ret
          exact ⟨⟨_, x, c3, R3, rfl, HLn.out, HOf.out⟩, HBf.out⟩

theorem trip_dsg {p : Int} {xss : List (List Int)} (h : tripB p xss = true) : DsgOk p xss ∧ tripOk p.toNat xss := by
  unfold tripB at h
  rw [Bool.and_eq_true, dsgB_true, decide_eq_true_eq] at h
  exact h
theorem trip_sys {P : Nat} {xss : List (List Int)} (h : tripB (P : Int) xss = true) : DsgOk (P : Int) xss ∧ TripSys P xss := by
  obtain ⟨h1, h2⟩ := trip_dsg h
  exact ⟨h1, trip_of h1 (by simpa using h2)⟩

/-- The code of a triple system and two points. -/
def twoI (p : Int) (xss : List (List Int)) (a b : Int) : Int := if tripB p xss = false then 1 else if inB a 0 (p - 1) = false ∨ inB b 0 (p - 1) = false ∨ a = b then 2 else 0
theorem twoI_zero {p : Int} {xss : List (List Int)} {a b : Int} (h : twoI p xss a b = 0) : tripB p xss = true ∧ (0 ≤ a ∧ a ≤ p - 1) ∧ (0 ≤ b ∧ b ≤ p - 1) ∧ a ≠ b := by
  unfold twoI at h
  split at h
  · omega
  · next h1 =>
    split at h
    · omega
    · next h2 =>
      refine ⟨by simpa using h1, inB_true.1 ?_, inB_true.1 ?_, fun e => h2 (.inr (.inr e))⟩
      · rcases hq : inB a 0 (p - 1) with _ | _
        · exact absurd (.inl hq) h2
        · rfl
      · rcases hq : inB b 0 (p - 1) with _ | _
        · exact absurd (.inr (.inl hq)) h2
        · rfl

set_option maxHeartbeats 4000000 in
theorem l11Third_c (w : World) (Bx P : Nat) (A : Option Addr) (n c : Nat) (R : Spine) (xss : List (List Int)) (hx : BoxD w Bx (P : Int) A n c) (hr : RdM w A c R xss) (hn : xss.length = n) (hD : DsgOk (P : Int) xss) (hT : TripSys P xss)
    (a b : Nat) (hne : a ≠ b) (ha : a < P) (hb : b < P) :
    Calls Tryz.prog 75 #[.pointer (some ⟨Bx, 0, none⟩), .int .i64 (a : Int), .int .i64 (b : Int)] w (EndQ (.int .i64 (thF xss xss.length a b)) w) := by
  have hP2 : P ≤ 32 := by have := hD.1.2; omega
  have hn1 : n ≤ 128 := by have := hD.2.1; omega
  obtain ⟨k0, hk0, hk1, hk2⟩ := thF_look hT hne ha hb
  have hc1 := hx.c1
  obtain ⟨T, hTT⟩ : ∃ T, T = thF xss xss.length a b := ⟨_, rfl⟩
  rw [← hTT]
  have HTT := Lib.hid (hTT.trans hk2)
  have HK1 := Lib.hid hk1
  have HR := Lib.hid hr
  have HN := Lib.hid hn
  have HTr := Lib.hid hT
  clear hx hr hn hD hT hTT hk1 hk2 hne
  go_enter Tryz.func75, Tryz.ntmps75
  go_wp2
  go_loop [7, 8] (fun i _ => ∃ k : Nat, k ≤ n ∧ i = .int .i64 k ∧ Hid (∀ j, j < k → lineP xss (a : Int) (b : Int) j = false)) (fun i _ => n - (intOf i).toNat)
  case atStart => exact ⟨0, Nat.zero_le _, rfl, fun j hj => absurd hj (by omega)⟩
  case round =>
    obtain ⟨k, hk, rfl, hP⟩ := hrel
    by_cases hlt : k < n
    · have hkx : k < xss.length := by rw [HN.out]; exact hlt
      obtain ⟨b1, off, e, hb1, hc⟩ := HR.out.at_ k hkx
      subst e
      have h3 := HTr.out.three k hkx
      have hrs := HR.out.rows k hkx
      have HSB := Lib.hid (HTr.out.rows k hkx)
      obtain ⟨s, hs⟩ : ∃ s, s = row xss k := ⟨_, rfl⟩
      have HS := Lib.hid hs
      rw [← hs] at hc h3 hrs HSB
      rw [h3] at hc
      have HH := Lib.hid (has_c w (R k).1 3 (R k).2 s (a : Int) hrs h3)
      have HH2 := Lib.hid (has_c w (R k).1 3 (R k).2 s (b : Int) hrs h3)
      have HLP := Lib.hid (show lineP xss (a : Int) (b : Int) k = (hasB s (a : Int) && hasB s (b : Int)) by rw [hs]; rfl)
      have hi0 : (0 : Int) ≤ (k : Int) := by omega
      have hi1 : (k : Int) < (n : Int) := by omega
      have H3 := Lib.hid h3
      have HRs := Lib.hid hrs
      clear hs h3 hrs
      generalize hasB s (a : Int) = q1 at *
      generalize hasB s (b : Int) = q2 at *
      cases q1
      · go_wp2_with fail
        refine (HH.out).mono ?_
        rintro e w' ⟨rfl, rfl⟩
        go_wp2
        go_round
        case rel =>
          refine ⟨k + 1, by omega, by go_num, fun j hj => ?_⟩
          by_cases e : j = k
          · subst e; rw [HLP.out]; rfl
          · exact hP.out j (by omega)
        case measure => simp [intOf]; omega
      · cases q2
        · go_wp2_with fail
          refine (HH.out).mono ?_
          rintro e w' ⟨rfl, rfl⟩
          go_wp2_with fail
          refine (HH2.out).mono ?_
          rintro e w' ⟨rfl, rfl⟩
          go_wp2
          go_round
          case rel =>
            refine ⟨k + 1, by omega, by go_num, fun j hj => ?_⟩
            by_cases e : j = k
            · subst e; rw [HLP.out]; rfl
            · exact hP.out j (by omega)
          case measure => simp [intOf]; omega
        · have hk00 : (k0 : Int) = (k : Int) := by rw [← HK1.out]; exact firstIdx_hit hkx HLP.out hP.out
          have HF := Lib.hid (show T = nth s 0 + nth s 1 + nth s 2 - (a : Int) - (b : Int) by
            rw [HTT.out, show k0 = k by omega, ← HS.out]; rfl)
          obtain ⟨b2, o2, e2, hb2, hv0⟩ := HRs.out.at_ 0 (by rw [H3.out]; omega)
          obtain ⟨_, _, e3, _, hv1⟩ := HRs.out.at_ 1 (by rw [H3.out]; omega)
          obtain ⟨_, _, e4, _, hv2⟩ := HRs.out.at_ 2 (by rw [H3.out]; omega)
          rw [e2] at e3 e4 hc HH HH2
          injection e3 with e3
          injection e3 with e3 e5
          subst e3 e5
          injection e4 with e4
          injection e4 with e4 e5
          subst e4 e5
          simp only [Nat.add_zero] at hv0
          have hs0 := three_sN HSB.out H3.out (i := 0) (by omega)
          have hs1 := three_sN HSB.out H3.out (i := 1) (by omega)
          have hs2 := three_sN HSB.out H3.out (i := 2) (by omega)
          have hd0 := hs0.1
          have hd1 := hs1.1
          have hd2 := hs2.1
          have he0 := hs0.2.1
          have he1 := hs1.2.1
          have he2 := hs2.2.1
          obtain ⟨y0, hy0⟩ : ∃ y0, y0 = nth s 0 := ⟨_, rfl⟩
          obtain ⟨y1, hy1⟩ : ∃ y1, y1 = nth s 1 := ⟨_, rfl⟩
          obtain ⟨y2, hy2⟩ : ∃ y2, y2 = nth s 2 := ⟨_, rfl⟩
          rw [← hy0] at HF hv0 he0
          rw [← hy1] at HF hv1 he1
          rw [← hy2] at HF hv2 he2
          have q0 : 0 ≤ y0 := by omega
          have q00 : y0 ≤ 32 := by omega
          have q1 : 0 ≤ y1 := by omega
          have q11 : y1 ≤ 32 := by omega
          have q2 : 0 ≤ y2 := by omega
          have q22 : y2 ≤ 32 := by omega
          have w1 : IntKind.i64.wrap (y0 + y1) = y0 + y1 := IntWalk.i64_in _ (by omega)
          have w2 : IntKind.i64.wrap (y0 + y1 + y2) = y0 + y1 + y2 := IntWalk.i64_in _ (by omega)
          have w3 : IntKind.i64.wrap (y0 + y1 + y2 - (a : Int)) = y0 + y1 + y2 - (a : Int) := IntWalk.i64_in _ (by omega)
          have w4 : IntKind.i64.wrap (y0 + y1 + y2 - (a : Int) - (b : Int)) = y0 + y1 + y2 - (a : Int) - (b : Int) := IntWalk.i64_in _ (by omega)
          clear hs0 hs1 hs2 hd0 hd1 hd2 he0 he1 he2 hy0 hy1 hy2 hk00
          go_wp2_with fail
          refine (HH.out).mono ?_
          rintro e w' ⟨rfl, rfl⟩
          go_wp2_with fail
          refine (HH2.out).mono ?_
          rintro e w' ⟨rfl, rfl⟩
          go_wp2
          go_quiet (fail)
          clear w1 w2 w3 w4
          go_wp2
          go_ret
          exact ⟨ret_i HF.out.symm, _, rfl⟩
    · exfalso
      obtain rfl : k = n := by omega
      have := firstIdx_miss (p := lineP xss (a : Int) (b : Int)) (n := xss.length) (by rw [HN.out]; exact hP.out)
      have h2 := HK1.out
      omega

/-! ### ThirdPoint -/

def thpI (p : Int) (xss : List (List Int)) (a b : Int) : Int := if twoI p xss a b = 0 then thF xss xss.length a.toNat b.toNat else 0

end Go.Proofs.YtmmkmkbpgcbehaaGreat
