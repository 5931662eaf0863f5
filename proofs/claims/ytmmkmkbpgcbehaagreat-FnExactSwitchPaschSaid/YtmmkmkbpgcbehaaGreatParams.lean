/-
  The parameters of a balanced design: parametersOf of the program, l10Parameters of the reference. Conditions: those of each theorem.
-/
import Derived.Test.YtmmkmkbpgcbehaaGreatGa
import Derived.Deep.RegionHeld3
namespace Go.Proofs.YtmmkmkbpgcbehaaGreat
open Go.RowKit
set_option linter.unusedVariables false
set_option linter.unusedSimpArgs false

def BalOk (P : Nat) (xss : List (List Int)) : Prop :=
  2 ≤ P ∧ 0 < xss.length ∧ 2 ≤ (row xss 0).length ∧ (∀ k, k < xss.length → (row xss k).length = (row xss 0).length) ∧ ∀ i, i < (pairL P xss).length → nth (pairL P xss) i = nth (pairL P xss) 0
instance (P : Nat) (xss : List (List Int)) : Decidable (BalOk P xss) := by unfold BalOk; infer_instance
def balB (P : Nat) (xss : List (List Int)) : Bool := decide (BalOk P xss)
def parR (P : Nat) (xss : List (List Int)) : Int := nth (rpS P xss xss.length) 0
def parL (P : Nat) (xss : List (List Int)) : Int := nth (pairL P xss) 0
def parA (P : Nat) (xss : List (List Int)) : Value := .agg #[.int .i64 (P : Int), .int .i64 (xss.length : Int), .int .i64 (parR P xss), .int .i64 ((row xss 0).length : Int), .int .i64 (parL P xss)]
def parV (P : Nat) (xss : List (List Int)) : Value :=
  if balB P xss = true then .tuple #[parA P xss, .bool true] else .tuple #[.agg #[.int .i64 0, .int .i64 0, .int .i64 0, .int .i64 0, .int .i64 0], .bool false]

theorem pairL_pos {P : Nat} (xss : List (List Int)) (h : 2 ≤ P) : 0 < (pairL P xss).length := by
  unfold pairL
  obtain ⟨q, rfl⟩ : ∃ q, P = q + 1 := ⟨P - 1, by omega⟩
  have : ∀ k, 0 < k → 0 < (pairsTo (q + 1) (cntF xss) k).length := by
    intro k hk
    obtain ⟨j, rfl⟩ : ∃ j, k = j + 1 := ⟨k - 1, by omega⟩
    induction j with
    | zero => rw [pairsTo_succ, List.length_append, List.length_drop, length_rowTo]; omega
    | succ j ih => rw [pairsTo_succ, List.length_append]; have := ih (by omega); omega
  exact this (q + 1) (by omega)

theorem zero5 (w : World) : (zeroValue 57).run Tryz.prog w = .ok (.agg #[.int .i64 0, .int .i64 0, .int .i64 0, .int .i64 0, .int .i64 0]) w := by kernel_rfl

/-- The box of the result, as it was made. -/
structure ZBox (w : World) (B : Nat) : Prop where
  c0 : w.cell? ⟨B, 0, none⟩ = some (.int .i64 0)
  c1 : w.cell? ⟨B, 1, none⟩ = some (.int .i64 0)
  c2 : w.cell? ⟨B, 2, none⟩ = some (.int .i64 0)
  c3 : w.cell? ⟨B, 3, none⟩ = some (.int .i64 0)
  c4 : w.cell? ⟨B, 4, none⟩ = some (.int .i64 0)
  f0 : w.frozen? ⟨B, 0, none⟩ = false
  f1 : w.frozen? ⟨B, 1, none⟩ = false
  f2 : w.frozen? ⟨B, 2, none⟩ = false
  f3 : w.frozen? ⟨B, 3, none⟩ = false
  f4 : w.frozen? ⟨B, 4, none⟩ = false
theorem ZBox.made (w : World) (T : TypeId) : ZBox (w.alloc (.cells #[.int .i64 0, .int .i64 0, .int .i64 0, .int .i64 0, .int .i64 0] T)) w.heap.size := by
  constructor <;> simp [go_sem]
theorem ZBox.step {w w' : World} {B lo : Nat} (h : ZBox w B) (hl : B < lo) (hb : Below lo w w') : ZBox w' B :=
  ⟨(hb.cell (p := ⟨B, 0, none⟩) hl).trans h.c0, (hb.cell (p := ⟨B, 1, none⟩) hl).trans h.c1, (hb.cell (p := ⟨B, 2, none⟩) hl).trans h.c2, (hb.cell (p := ⟨B, 3, none⟩) hl).trans h.c3, (hb.cell (p := ⟨B, 4, none⟩) hl).trans h.c4,
   (hb.frozen (p := ⟨B, 0, none⟩) hl).trans h.f0, (hb.frozen (p := ⟨B, 1, none⟩) hl).trans h.f1, (hb.frozen (p := ⟨B, 2, none⟩) hl).trans h.f2, (hb.frozen (p := ⟨B, 3, none⟩) hl).trans h.f3, (hb.frozen (p := ⟨B, 4, none⟩) hl).trans h.f4⟩
theorem ZBox.drew {w : World} {B : Nat} (h : ZBox w B) (n : Nat) : ZBox (w.drewN n) B := ⟨h.c0, h.c1, h.c2, h.c3, h.c4, h.f0, h.f1, h.f2, h.f3, h.f4⟩
theorem below_set5 {B g : Nat} {w w' : World} {u0 u1 u2 u3 u4 : Value} (h : Below B w w') (hg : B ≤ g) :
    Below B w (((((w'.setCell ⟨g, 0, none⟩ u0).setCell ⟨g, 1, none⟩ u1).setCell ⟨g, 2, none⟩ u2).setCell ⟨g, 3, none⟩ u3).setCell ⟨g, 4, none⟩ u4) :=
  ((((h.setCell hg _).setCell hg _).setCell hg _).setCell hg _).setCell hg _
theorem cell_set5 {g : Nat} {w : World} {u0 u1 u2 u3 u4 : Value} {p : Addr} (hp : p.block ≠ g) :
    (((((w.setCell ⟨g, 0, none⟩ u0).setCell ⟨g, 1, none⟩ u1).setCell ⟨g, 2, none⟩ u2).setCell ⟨g, 3, none⟩ u3).setCell ⟨g, 4, none⟩ u4).cell? p = w.cell? p := by
  have h : ∀ (W : World) (i : Nat) (u : Value), (W.setCell ⟨g, i, none⟩ u).cell? p = W.cell? p := fun W i u => World.cell?_setCell_other _ _ _ _ (by rintro rfl; exact hp rfl)
  rw [h, h, h, h, h]
theorem parV_no {P : Nat} {xss : List (List Int)} (h : ¬ BalOk P xss) : parV P xss = .tuple #[.agg #[.int .i64 0, .int .i64 0, .int .i64 0, .int .i64 0, .int .i64 0], .bool false] := by
  unfold parV balB; rw [if_neg (by simpa using h)]
theorem parV_yes {P : Nat} {xss : List (List Int)} (h : BalOk P xss) : parV P xss = .tuple #[parA P xss, .bool true] := by
  unfold parV balB; rw [if_pos (by simpa using h)]

set_option maxHeartbeats 8000000 in
set_option maxRecDepth 10000 in
theorem l10Parameters_c (w : World) (Bx P : Nat) (A : Option Addr) (n c : Nat) (R : Spine) (xss : List (List Int)) (hx : BoxD w Bx (P : Int) A n c) (hr : RdM w A c R xss) (hn : xss.length = n) (hD : DsgOk (P : Int) xss) :
    Calls Tryz.prog 43 #[.pointer (some ⟨Bx, 0, none⟩)] w (PostV w (parV P xss)) := by
  have hP1 : 1 ≤ P := by have := hD.1.1; omega
  have hP2 : P ≤ 32 := by have := hD.1.2; omega
  have hn1 : n ≤ 128 := by have := hD.2.1; omega
  have hB0 := below_boxed w (.cells #[.int .i64 0, .int .i64 0, .int .i64 0, .int .i64 0, .int .i64 0] 57)
  have hZ := ZBox.made w 57
  have hx0 := hx.below hB0
  have HN := Lib.hid hn
  have HD := Lib.hid hD
  have HR := Lib.hid (hr.below hB0)
  have HB0 := Lib.hid hB0
  have HX := Lib.hid hx0
  have HZ := Lib.hid hZ
  have hc0 := hx0.c0
  have hc1 := hx0.c1
  obtain ⟨T, hT⟩ : ∃ T, T = parV P xss := ⟨_, rfl⟩
  rw [← hT]
  have HT := Lib.hid hT
  have hBx : Bx < w.heap.size := hx.lt
  have hlen := fun k hk => Nat.le_trans (setB_len (hD.rows k hk)) hP2
  have HLen := Lib.hid hlen
  clear hr hn hD hB0 hZ hx hx0 hT hlen
  by_cases hp2 : P < 2
  · have HF := Lib.hid (HT.out.trans (parV_no (xss := xss) (fun h => by have := h.1; omega)))
    go_enter Tryz.func43, Tryz.ntmps43
    go_wp2
    refine bodyPost_ret (v := .tuple #[.agg #[.int .i64 0, .int .i64 0, .int .i64 0, .int .i64 0, .int .i64 0], .bool false]) (by simp [results, Tryz.results43, go_sem]) rfl ⟨by rw [HF.out], ?_⟩
    exact HB0.out
  · have hp2' : (2 : Int) ≤ (P : Int) := by omega
    by_cases hn0 : n = 0
    · have HF := Lib.hid (HT.out.trans (parV_no (xss := xss) (fun h => by have := h.2.1; have := HN.out; omega)))
      subst hn0
      go_enter Tryz.func43, Tryz.ntmps43
      go_wp2
      refine bodyPost_ret (v := .tuple #[.agg #[.int .i64 0, .int .i64 0, .int .i64 0, .int .i64 0, .int .i64 0], .bool false]) (by simp [results, Tryz.results43, go_sem]) rfl ⟨by rw [HF.out], ?_⟩
      exact HB0.out
    · have hnx : 0 < xss.length := by have := HN.out; omega
      obtain ⟨b0, off0, e0, hb0, hcr⟩ := HR.out.at_ 0 hnx
      rw [Nat.add_zero] at hcr
      subst e0
      obtain ⟨L0, hL0⟩ : ∃ L0, L0 = (row xss 0).length := ⟨_, rfl⟩
      rw [← hL0] at hcr
      have hl0 : L0 ≤ 32 := by rw [hL0]; exact HLen.out 0 hnx
      have HL0 := Lib.hid hL0
      have hnn : ((n : Int) == 0) = false := by simp; omega
      have hnp : 0 < n := by omega
      have hnp' : (0 : Int) < (n : Int) := by omega
      clear hL0 hn0
      go_enter Tryz.func43, Tryz.ntmps43
      go_wp2
      clear hc0 hnn
      generalize hWW : (w.alloc (.cells #[.int .i64 0, .int .i64 0, .int .i64 0, .int .i64 0, .int .i64 0] 57)) = w0 at *
      have hs0 : w.heap.size + 1 = w0.heap.size := by rw [← hWW]; simp
      clear hWW
      go_loop [5] (fun i => ∃ k : Nat, k ≤ n ∧ i = .int .i64 k ∧ Hid (∀ j, j < k → (row xss j).length = L0 ∧ 2 ≤ L0)) (fun i => n - (intOf i).toNat)
      case atStart => exact ⟨0, Nat.zero_le _, rfl, fun j hj => absurd hj (by omega)⟩
      case round =>
        obtain ⟨k, hk, rfl, hP⟩ := hrel
        by_cases hlt : k < n
        · have hkx : k < xss.length := by rw [HN.out]; exact hlt
          obtain ⟨b1, off1, e1, hb1, hcc⟩ := HR.out.at_ k hkx
          injection e1 with e1
          injection e1 with e1 e2
          subst e1 e2
          have hlk := HLen.out k hkx
          obtain ⟨q, hq⟩ : ∃ q, q = (row xss k).length := ⟨_, rfl⟩
          rw [← hq] at hcc hlk
          have HQ := Lib.hid hq
          have hi0 : (0 : Int) ≤ (k : Int) := by omega
          have hi1 : (k : Int) < (n : Int) := by omega
          clear hq
          by_cases hqe : q = L0
          · have hne : ((q : Int) != (L0 : Int)) = false := by simp [hqe]
            by_cases hk2 : 2 ≤ L0
            · have hk2' : decide ((L0 : Int) < 2) = false := by simp; omega
              have HP := Lib.hid (show ∀ j, j < k + 1 → (row xss j).length = L0 ∧ 2 ≤ L0 from fun j hj => by
                by_cases e : j = k
                · subst e; exact ⟨HQ.out.symm.trans hqe, hk2⟩
                · exact hP.out j (by omega))
              clear hqe hk2
              go_wp2
              go_round
              case rel => exact ⟨k + 1, by omega, by go_num, HP⟩
              case measure => simp [intOf]; omega
            · have hk2' : decide ((L0 : Int) < 2) = true := by simp; omega
              have HF := Lib.hid (HT.out.trans (parV_no (xss := xss) (fun h => by have := h.2.2.1; have := HL0.out; omega)))
              clear hqe hk2
              have z := HZ.out
              have z0 := z.c0
              have z1 := z.c1
              have z2 := z.c2
              have z3 := z.c3
              have z4 := z.c4
              have y0 := z.f0
              have y1 := z.f1
              have y2 := z.f2
              have y3 := z.f3
              have y4 := z.f4
              clear z
              go_wp2
              refine bodyPost_ret (v := .tuple #[.agg #[.int .i64 0, .int .i64 0, .int .i64 0, .int .i64 0, .int .i64 0], .bool false]) (by simp [results, Tryz.results43, go_sem, z0, z1, z2, z3, z4]) rfl ⟨by rw [HF.out], ?_⟩
              exact below_set5 HB0.out (Nat.le_refl _)
          · have hne : ((q : Int) != (L0 : Int)) = true := by simp; omega
            have HF := Lib.hid (HT.out.trans (parV_no (xss := xss) (fun h => by have := h.2.2.2.1 k hkx; rw [← HQ.out, ← HL0.out] at this; exact hqe this)))
            clear hqe
            have z := HZ.out
            have z0 := z.c0
            have z1 := z.c1
            have z2 := z.c2
            have z3 := z.c3
            have z4 := z.c4
            have y0 := z.f0
            have y1 := z.f1
            have y2 := z.f2
            have y3 := z.f3
            have y4 := z.f4
            clear z
            go_wp2
            refine bodyPost_ret (v := .tuple #[.agg #[.int .i64 0, .int .i64 0, .int .i64 0, .int .i64 0, .int .i64 0], .bool false]) (by simp [results, Tryz.results43, go_sem, z0, z1, z2, z3, z4]) rfl ⟨by rw [HF.out], ?_⟩
            exact below_set5 HB0.out (Nat.le_refl _)
        · obtain rfl : k = n := by omega
          have h2L := (hP.out 0 hnp).2
          have HPairs := Lib.hid (l10Pairs_c w0 Bx P _ k c R xss HX.out HR.out HN.out HD.out)
          go_wp2_with fail
          refine (HPairs.out).mono ?_
          rintro e w5 ⟨⟨A5, n5, c5, rfl, hn5, ho5⟩, hb5⟩
          have hpos := pairL_pos xss (P := P) (by omega)
          have hle := pairL_len P xss
          have hPP : P * P ≤ 32 * 32 := Nat.mul_le_mul hP2 hP2
          have h5 : n5 ≤ 1024 := by omega
          have h50 : 0 < n5 := by omega
          have HN5 := Lib.hid hn5
          have HO5 := Lib.hid ho5
          have HB5 := Lib.hid (HB0.out.trans (hb5.mono (by omega)))
          have HX5 := Lib.hid (HX.out.below hb5)
          have HR5 := Lib.hid (HR.out.below hb5)
          have HZ5 := Lib.hid (HZ.out.step (by omega) hb5)
          have hz5 := hb5.size
          obtain ⟨g5, e5, _, _, hv0, _⟩ := ho5.at_ (k := 0) (by omega)
          subst e5
          obtain ⟨v0, hv⟩ : ∃ v0, v0 = nth (pairL P xss) 0 := ⟨_, rfl⟩
          rw [← hv] at hv0
          have HV := Lib.hid hv
          have hc05 := HX5.out.c0
          have hc15 := HX5.out.c1
          clear hn5 ho5 hb5 hpos hle hPP hc1 hcr HPairs hv
          have hcr5 := (HR5.out.at_ 0 hnx)
          go_wp2
          go_loopw [7] (fun i wr => ∃ j : Nat, j ≤ n5 ∧ i = .int .i64 j ∧ Hid (∀ t, t < j → nth (pairL P xss) t = v0) ∧ Qt w5 wr) (fun i _ => n5 - (intOf i).toNat)
          case atStart => exact ⟨0, Nat.zero_le _, rfl, fun j hj => absurd hj (by omega), Qt.refl _⟩
          case round =>
            obtain ⟨j, hj, rfl, hQ, ⟨m5, rfl⟩⟩ := hrel
            by_cases hlt5 : j < n5
            · obtain ⟨g6, e6, _, _, hvj, _⟩ := HO5.out.at_ (k := j) (by rw [HN5.out]; exact hlt5)
              injection e6 with e6
              injection e6 with e6
              subst e6
              have hj0 : (0 : Int) ≤ (j : Int) := by omega
              have hj1 : (j : Int) < (n5 : Int) := by omega
              have hj2 : (0 : Int) < (n5 : Int) := by omega
              obtain ⟨vj, hvj2⟩ : ∃ vj, vj = nth (pairL P xss) j := ⟨_, rfl⟩
              rw [← hvj2] at hvj
              have HVj := Lib.hid hvj2
              clear hvj2
              by_cases hv : vj = v0
              · have hne : (vj != v0) = false := by simp [hv]
                have HQ2 := Lib.hid (show ∀ t, t < j + 1 → nth (pairL P xss) t = v0 from fun t ht => by
                  by_cases e : t = j
                  · subst e; exact HVj.out.symm.trans hv
                  · exact hQ.out t (by omega))
                clear hv
                go_wp2
                go_quiet (fail)
                go_wp2
                go_roundw
                case rel => exact ⟨j + 1, by omega, by go_num, HQ2, ⟨_, rfl⟩⟩
                case measure => simp [intOf]; omega
              · have hne : (vj != v0) = true := by rw [bne_iff_ne]; exact hv
                have HF := Lib.hid (HT.out.trans (parV_no (xss := xss) (fun h => by have := h.2.2.2.2 j (by rw [HN5.out]; exact hlt5); rw [← HVj.out, ← HV.out] at this; exact hv this)))
                clear hv
                go_wp2
                go_quiet (fail)
                have HZ6 := Lib.hid ((HZ5.out.drew m5).drew nq)
                have HB6 := Lib.hid (below_drewN (below_drewN HB5.out m5) nq)
                generalize (w5.drewN m5).drewN nq = w6 at *
                have z := HZ6.out
                have z0 := z.c0
                have z1 := z.c1
                have z2 := z.c2
                have z3 := z.c3
                have z4 := z.c4
                have y0 := z.f0
                have y1 := z.f1
                have y2 := z.f2
                have y3 := z.f3
                have y4 := z.f4
                clear z
                go_wp2
                refine bodyPost_ret (v := .tuple #[.agg #[.int .i64 0, .int .i64 0, .int .i64 0, .int .i64 0, .int .i64 0], .bool false]) (by simp [results, Tryz.results43, go_sem, z0, z1, z2, z3, z4]) rfl ⟨by rw [HF.out], ?_⟩
                exact below_set5 HB6.out (Nat.le_refl _)
            · obtain rfl : j = n5 := by omega
              have HY := Lib.hid (show BalOk P xss from ⟨by omega, hnx, by rw [← HL0.out]; exact h2L, fun k hk => by rw [← HL0.out]; exact (hP.out k (by rw [← HN.out]; exact hk)).1, fun i hi => by rw [← HV.out]; exact hQ.out i (by rw [← HN5.out]; exact hi)⟩)
              have HF := Lib.hid (HT.out.trans (parV_yes HY.out))
              have hx7 := HX5.out.drewN m5
              have hz7 := HZ5.out.drew m5
              have hB7 := below_drewN HB5.out m5
              have hO7 := HO5.out.drewN m5
              have hR7 := HR5.out.drewN m5
              have hs7 : (w5.drewN m5).heap.size = w5.heap.size := rfl
              clear hc05 hc15 hcr5 hv0
              generalize w5.drewN m5 = w7 at *
              obtain ⟨b7, off7, e7, hb7, hcr7⟩ := hR7.at_ 0 hnx
              rw [Nat.add_zero, ← HL0.out] at hcr7
              injection e7 with e7
              injection e7 with e7 e8
              subst e7 e8
              obtain ⟨g6, e6, hg60, hg6, hv7, _⟩ := hO7.at_ (k := 0) (by rw [HN5.out]; exact h50)
              injection e6 with e6
              injection e6 with e6
              subst e6
              rw [← HV.out] at hv7
              have hc07 := hx7.c0
              have hc17 := hx7.c1
              have HX7 := Lib.hid hx7
              have HB7 := Lib.hid hB7
              have HZ7 := Lib.hid hz7
              have HRep := Lib.hid (fun (W : World) (hb : Below w7.heap.size w7 W) => l10Replications_c W Bx P _ k c R xss (hx7.below hb) (hR7.below hb) HN.out HD.out)
              have HRl := Lib.hid (rpS_len P xss k)
              have hS := Lib.hid (Below.refl w7.heap.size w7)
              have ck0 := Lib.hid (fun (w' : World) (hb : Below w7.heap.size w7 w') => (hb.cell (p := ⟨Bx, 0, none⟩) (by show Bx < w7.heap.size; have := HX7.out.lt; omega)).trans hc07)
              have ck1 := Lib.hid (fun (w' : World) (hb : Below w7.heap.size w7 w') => (hb.cell (p := ⟨Bx, 1, none⟩) (by show Bx < w7.heap.size; have := HX7.out.lt; omega)).trans hc17)
              have ck2 := Lib.hid (fun (w' : World) (hb : Below w7.heap.size w7 w') => (hb.cell (p := ⟨g5, 0, none⟩) hg6).trans hv7)
              have ck3 := Lib.hid (fun (w' : World) (hb : Below w7.heap.size w7 w') => HZ7.out.step (by omega) hb)
              have hj2 : (0 : Int) < (j : Int) := by omega
              have hne1 : Bx ≠ w.heap.size := by omega
              have hne2 : g5 ≠ w.heap.size := by omega
              clear hx7 hz7 hB7 hO7 hR7 hcr7
              go_wp2
              refine wp_region_noPanic ?_
              refine wp_region_held_drew (S := (fun w' => w'.cell? ⟨Bx, 0, none⟩ = some (.int .i64 (P : Int)) ∧ w'.cell? ⟨Bx, 1, none⟩ = some (.slice (some ⟨b0, off0, none⟩) k c) ∧ w'.cell? ⟨g5, 0, none⟩ = some (.int .i64 v0))) (by kernel_rfl) ⟨ck0.out _ (below_drewN hS.out 1), ck1.out _ (below_drewN hS.out 1), ck2.out _ (below_drewN hS.out 1)⟩ (fun hHeld => ?_)
              refine wpAnyH_take (i := 0) (v := ?_) rfl (by kernel_rfl) (by kernel_rfl) (by kernel_rfl) (fun _ _ _ h => h) (Or.inl ⟨by rfl, ?_⟩) hHeld ?_
              rotate_left
              · (intro w hSw; (try dsimp only at hSw); (go_simp <;> with_reducible rfl))
              try simp only [Act.put, List.getElem_toArray, List.getElem_cons_succ, List.getElem_cons_zero, List.setIfInBounds_toArray, List.set_cons_zero, List.set_cons_succ]
              refine wpAnyH_take (i := 1) (v := ?_) rfl (by kernel_rfl) (by kernel_rfl) (by kernel_rfl) (fun _ _ _ h => h) (Or.inl ⟨by rfl, ?_⟩) hHeld ?_
              rotate_left
              · (intro w hSw; (try dsimp only at hSw); (go_simp <;> with_reducible rfl))
              try simp only [Act.put, List.getElem_toArray, List.getElem_cons_succ, List.getElem_cons_zero, List.setIfInBounds_toArray, List.set_cons_zero, List.set_cons_succ]
              refine wpAnyH_take (i := 2) (v := ?_) rfl (by kernel_rfl) (by kernel_rfl) (by kernel_rfl) (fun _ _ _ h => h) (Or.inl ⟨by rfl, ?_⟩) hHeld ?_
              rotate_left
              · (intro w hSw; (try dsimp only at hSw); (go_simp <;> with_reducible rfl))
              try simp only [Act.put, List.getElem_toArray, List.getElem_cons_succ, List.getElem_cons_zero, List.setIfInBounds_toArray, List.set_cons_zero, List.set_cons_succ]
              refine wpAnyH_take (i := 3) (v := ?_) rfl (by kernel_rfl) (by kernel_rfl) (by kernel_rfl) (fun _ _ _ h => h) (Or.inl ⟨by rfl, ?_⟩) hHeld ?_
              rotate_left
              · (intro w hSw; (try dsimp only at hSw); (go_simp <;> with_reducible rfl))
              try simp only [Act.put, List.getElem_toArray, List.getElem_cons_succ, List.getElem_cons_zero, List.setIfInBounds_toArray, List.set_cons_zero, List.set_cons_succ]
              refine wpAnyH_take (i := 4) (v := ?_) rfl (by kernel_rfl) (by kernel_rfl) (by kernel_rfl) (fun _ _ _ h => h) (Or.inl ⟨by rfl, ?_⟩) hHeld ?_
              rotate_left
              · (intro w hSw; (try dsimp only at hSw); (go_simp <;> with_reducible rfl))
              try simp only [Act.put, List.getElem_toArray, List.getElem_cons_succ, List.getElem_cons_zero, List.setIfInBounds_toArray, List.set_cons_zero, List.set_cons_succ]
              refine wpAnyH_take (i := 5) (v := ?_) rfl (by kernel_rfl) (by kernel_rfl) (by kernel_rfl) (fun _ _ _ h => h) (Or.inl ⟨by rfl, ?_⟩) hHeld ?_
              rotate_left
              · (intro w hSw; (try dsimp only at hSw); (go_simp <;> with_reducible rfl))
              try simp only [Act.put, List.getElem_toArray, List.getElem_cons_succ, List.getElem_cons_zero, List.setIfInBounds_toArray, List.set_cons_zero, List.set_cons_succ]
              refine wpAnyH_take (i := 6) (v := ?_) rfl (by kernel_rfl) (by kernel_rfl) (by kernel_rfl) (fun _ _ _ h => h) (Or.inl ⟨by rfl, ?_⟩) hHeld ?_
              rotate_left
              · (intro w hSw; (try dsimp only at hSw); (go_simp <;> with_reducible rfl))
              try simp only [Act.put, List.getElem_toArray, List.getElem_cons_succ, List.getElem_cons_zero, List.setIfInBounds_toArray, List.set_cons_zero, List.set_cons_succ]
              refine wpAnyH_take (i := 7) (v := ?_) rfl (by kernel_rfl) (by kernel_rfl) (by kernel_rfl) (fun _ _ _ h => h) (Or.inl ⟨by rfl, ?_⟩) hHeld ?_
              rotate_left
              · (intro w hSw; (try dsimp only at hSw); (go_simp <;> with_reducible rfl))
              try simp only [Act.put, List.getElem_toArray, List.getElem_cons_succ, List.getElem_cons_zero, List.setIfInBounds_toArray, List.set_cons_zero, List.set_cons_succ]
              refine wpAnyH_take (i := 8) (v := ?_) rfl (by kernel_rfl) (by kernel_rfl) (by kernel_rfl) (fun _ _ _ h => h) (Or.inl ⟨by rfl, ?_⟩) hHeld ?_
              rotate_left
              · (intro w hSw; (try dsimp only at hSw); (go_simp <;> with_reducible rfl))
              try simp only [Act.put, List.getElem_toArray, List.getElem_cons_succ, List.getElem_cons_zero, List.setIfInBounds_toArray, List.set_cons_zero, List.set_cons_succ]
              refine wpAnyH_take (i := 9) (v := ?_) rfl (by kernel_rfl) (by kernel_rfl) (by kernel_rfl) (fun _ _ _ h => h) (Or.inl ⟨by rfl, ?_⟩) hHeld ?_
              rotate_left
              · (intro w hSw; (try dsimp only at hSw); (go_simp <;> with_reducible rfl))
              try simp only [Act.put, List.getElem_toArray, List.getElem_cons_succ, List.getElem_cons_zero, List.setIfInBounds_toArray, List.set_cons_zero, List.set_cons_succ]
              refine wpAnyH_take (i := 13) (v := ?_) rfl (by kernel_rfl) (by kernel_rfl) (by kernel_rfl) (fun _ _ _ h => h) (Or.inl ⟨by rfl, ?_⟩) hHeld ?_
              rotate_left
              · (intro w hSw; (try dsimp only at hSw); (go_simp <;> with_reducible rfl))
              try simp only [Act.put, List.getElem_toArray, List.getElem_cons_succ, List.getElem_cons_zero, List.setIfInBounds_toArray, List.set_cons_zero, List.set_cons_succ]
              refine wpAnyH_take (i := 14) (v := ?_) rfl (by kernel_rfl) (by kernel_rfl) (by kernel_rfl) (fun _ _ _ h => h) (Or.inl ⟨by rfl, ?_⟩) hHeld ?_
              rotate_left
              · (intro w hSw; (try dsimp only at hSw); (go_simp <;> with_reducible rfl))
              try simp only [Act.put, List.getElem_toArray, List.getElem_cons_succ, List.getElem_cons_zero, List.setIfInBounds_toArray, List.set_cons_zero, List.set_cons_succ]
              refine wpAnyH_take (i := 15) (v := ?_) rfl (by kernel_rfl) (by kernel_rfl) (by kernel_rfl) (fun _ _ _ h => h) (Or.inl ⟨by rfl, ?_⟩) hHeld ?_
              rotate_left
              · (intro w hSw; (try dsimp only at hSw); (go_simp <;> with_reducible rfl))
              try simp only [Act.put, List.getElem_toArray, List.getElem_cons_succ, List.getElem_cons_zero, List.setIfInBounds_toArray, List.set_cons_zero, List.set_cons_succ]
              refine wpAnyH_take (i := 16) (v := ?_) rfl (by kernel_rfl) (by kernel_rfl) (by kernel_rfl) (fun _ _ _ h => h) (Or.inl ⟨by rfl, ?_⟩) hHeld ?_
              rotate_left
              · (intro w hSw; (try dsimp only at hSw); (go_simp <;> with_reducible rfl))
              try simp only [Act.put, List.getElem_toArray, List.getElem_cons_succ, List.getElem_cons_zero, List.setIfInBounds_toArray, List.set_cons_zero, List.set_cons_succ]
              refine wpAnyH_ready (rs := [10]) (by kernel_rfl) (by simp) ?_
              refine AllReadyH.cons rfl (fun K hK => ?_) ?_
              · go_simp
                refine (HRep.out _ (below_drewN hS.out 1)).mono ?_
                rintro e w8 ⟨⟨A8, n8, c8, rfl, hn8, ho8⟩, hb8⟩
                have hS0 := hS
                have hS := Lib.hid ((below_drewN hS0.out 1).trans (hb8.mono hS0.out.size))
                obtain ⟨g8, e8, _, _, hv8, _⟩ := ho8.at_ (k := 0) (by rw [HRl.out]; omega)
                subst e8
                obtain rfl : n8 = P := hn8.symm.trans HRl.out
                have hP0 : (0 : Int) < (n8 : Int) := by omega
                have hP00 : 0 < n8 := by omega
                have z := ck3.out _ hS.out
                have z0 := z.c0
                have z1 := z.c1
                have z2 := z.c2
                have z3 := z.c3
                have z4 := z.c4
                have y0 := z.f0
                have y1 := z.f1
                have y2 := z.f2
                have y3 := z.f3
                have y4 := z.f4
                clear z
                try go_wp2_with fail
                refine hK.out _ _ ⟨ck0.out _ hS.out, ck1.out _ hS.out, ck2.out _ hS.out⟩ (fun hHeld => ?_)
                clear hK K
                try simp only [Act.put, List.getElem_toArray, List.getElem_cons_succ, List.getElem_cons_zero, List.setIfInBounds_toArray, List.set_cons_zero, List.set_cons_succ]
                refine wpAnyH_take (i := 11) (v := ?_) rfl (by kernel_rfl) (by kernel_rfl) (by kernel_rfl) (fun _ _ _ h => h) (Or.inl ⟨by rfl, ?_⟩) hHeld ?_
                rotate_left
                · (intro w hSw; (try dsimp only at hSw); (go_simp <;> with_reducible rfl))
                try simp only [Act.put, List.getElem_toArray, List.getElem_cons_succ, List.getElem_cons_zero, List.setIfInBounds_toArray, List.set_cons_zero, List.set_cons_succ]
                refine wpAnyH_ready (rs := [12]) (by kernel_rfl) (by simp) ?_
                refine AllReadyH.cons rfl (fun K hK => ?_) ?_
                · go_simp
                  refine hK.out _ _ ⟨ck0.out _ hS.out, ck1.out _ hS.out, ck2.out _ hS.out⟩ (fun hHeld => ?_)
                  clear hK K
                  try simp only [Act.put, List.getElem_toArray, List.getElem_cons_succ, List.getElem_cons_zero, List.setIfInBounds_toArray, List.set_cons_zero, List.set_cons_succ]
                  refine wpAnyH_take (i := 17) (v := ?_) rfl (by kernel_rfl) (by kernel_rfl) (by kernel_rfl) (fun _ _ _ h => h) (Or.inl ⟨by rfl, ?_⟩) hHeld ?_
                  rotate_left
                  · (intro w hSw; (try dsimp only at hSw); (go_simp <;> with_reducible rfl))
                  try simp only [Act.put, List.getElem_toArray, List.getElem_cons_succ, List.getElem_cons_zero, List.setIfInBounds_toArray, List.set_cons_zero, List.set_cons_succ]
                  refine wpAnyH_ready (rs := [18]) (by kernel_rfl) (by simp) ?_
                  refine AllReadyH.cons rfl (fun K hK => ?_) ?_
                  · go_simp
                    refine hK.out _ _ ⟨(cell_set5 hne1).trans (ck0.out _ hS.out), (cell_set5 hne1).trans (ck1.out _ hS.out), (cell_set5 hne2).trans (ck2.out _ hS.out)⟩ (fun hHeld => ?_)
                    clear hK K
                    try simp only [Act.put, List.getElem_toArray, List.getElem_cons_succ, List.getElem_cons_zero, List.setIfInBounds_toArray, List.set_cons_zero, List.set_cons_succ]
                    refine wpAnyH_take (i := 19) (v := ?_) rfl (by kernel_rfl) (by kernel_rfl) (by kernel_rfl) (fun _ _ _ h => h) (Or.inl ⟨by rfl, ?_⟩) hHeld ?_
                    rotate_left
                    · (intro w hSw; (try dsimp only at hSw); (go_simp <;> with_reducible rfl))
                    try simp only [Act.put, List.getElem_toArray, List.getElem_cons_succ, List.getElem_cons_zero, List.setIfInBounds_toArray, List.set_cons_zero, List.set_cons_succ]
                    refine wpAnyH_done (by kernel_rfl) ?_ _
                    refine NoPanic.normal ?_
                    have HB9 := Lib.hid (HB7.out.trans (hS.out.mono HB7.out.size))
                    have HFF := Lib.hid (show T = .tuple #[.agg #[.int .i64 (n8 : Int), .int .i64 (k : Int), .int .i64 (nth (rpS n8 xss k) 0), .int .i64 (L0 : Int), .int .i64 v0], .bool true] by rw [HF.out, parA, parR, parL, HN.out, ← HV.out, ← HL0.out])
                    go_wp2
                    refine bodyPost_ret (v := .tuple #[.agg #[.int .i64 (n8 : Int), .int .i64 (k : Int), .int .i64 (nth (rpS n8 xss k) 0), .int .i64 (L0 : Int), .int .i64 v0], .bool true]) (by simp [results, Tryz.results43, go_sem, z0, z1, z2, z3, z4]) rfl ⟨by rw [HFF.out], ?_⟩
                    exact below_set5 HB9.out (Nat.le_refl _)
                  exact AllReadyH.nil
                exact AllReadyH.nil
              exact AllReadyH.nil

set_option maxHeartbeats 16000000 in
set_option maxRecDepth 10000 in
theorem parametersOf_c (w : World) (P : Nat) (A : Option Addr) (n c : Nat) (R : Spine) (xss : List (List Int)) (hr : RdM w A c R xss) (hn : xss.length = n) (hD : DsgOk (P : Int) xss) :
    Calls Tryz.prog 48 #[.agg #[.int .i64 (P : Int), .slice A n c]] w (PostV w (parV P xss)) := by
  have hP1 : 1 ≤ P := by have := hD.1.1; omega
  have hP2 : P ≤ 32 := by have := hD.1.2; omega
  have hn1 : n ≤ 128 := by have := hD.2.1; omega
  obtain ⟨W, hW⟩ : ∃ W, W = (w.alloc (.cells #[.int .i64 (P : Int), .slice A n c] 28)).alloc (.cells #[.int .i64 0, .int .i64 0, .int .i64 0, .int .i64 0, .int .i64 0] 57) := ⟨_, rfl⟩
  have hB0 : Below w.heap.size w W := by rw [hW]; exact (below_boxed _ _).alloc (by simp) _
  have hX : BoxD W w.heap.size (P : Int) A n c := by rw [hW]; exact (BoxD.made _ _ _ _ _ _).below (below_boxed _ _)
  have hZ : ZBox W (w.heap.size + 1) := by
    rw [hW]
    have := ZBox.made (w.alloc (.cells #[.int .i64 (P : Int), .slice A n c] 28)) 57
    simpa using this
  have hs2 : W.heap.size = w.heap.size + 1 + 1 := by rw [hW]; simp
  have HN := Lib.hid hn
  have HD := Lib.hid hD
  have HR := Lib.hid (hr.below hB0)
  have HRw := Lib.hid hr
  have HB0 := Lib.hid hB0
  have HX := Lib.hid hX
  have HZ := Lib.hid hZ
  have HS2 := Lib.hid hs2
  have hc0 := hX.c0
  have hc1 := hX.c1
  obtain ⟨T, hT⟩ : ∃ T, T = parV P xss := ⟨_, rfl⟩
  rw [← hT]
  have HT := Lib.hid hT
  have hlen := fun k hk => Nat.le_trans (setB_len (hD.rows k hk)) hP2
  have HLen := Lib.hid hlen
  clear hr hn hD hB0 hX hZ hT hlen hs2
  by_cases hp2 : P < 2
  · have HF := Lib.hid (HT.out.trans (parV_no (xss := xss) (fun h => by have := h.1; omega)))
    have HW := Lib.hid hW
    rw [hW] at hc0
    clear hW hc1
    go_enter Tryz.func48, Tryz.ntmps48
    go_wp2
    refine bodyPost_ret (v := .tuple #[.agg #[.int .i64 0, .int .i64 0, .int .i64 0, .int .i64 0, .int .i64 0], .bool false]) (by simp [results, Tryz.results48, go_sem]) rfl ⟨by rw [HF.out], ?_⟩
    rw [HW.out] at HB0
    exact HB0.out
  · have hp2' : (2 : Int) ≤ (P : Int) := by omega
    by_cases hn0 : n = 0
    · have HF := Lib.hid (HT.out.trans (parV_no (xss := xss) (fun h => by have := h.2.1; have := HN.out; omega)))
      subst hn0
      have HW := Lib.hid hW
      rw [hW] at hc0 hc1
      clear hW
      go_enter Tryz.func48, Tryz.ntmps48
      go_wp2
      refine bodyPost_ret (v := .tuple #[.agg #[.int .i64 0, .int .i64 0, .int .i64 0, .int .i64 0, .int .i64 0], .bool false]) (by simp [results, Tryz.results48, go_sem]) rfl ⟨by rw [HF.out], ?_⟩
      rw [HW.out] at HB0
      exact HB0.out
    · have hnx : 0 < xss.length := by have := HN.out; omega
      obtain ⟨b0, off0, e0, hb0, hcr⟩ := HR.out.at_ 0 hnx
      rw [Nat.add_zero] at hcr
      subst e0
      obtain ⟨L0, hL0⟩ : ∃ L0, L0 = (row xss 0).length := ⟨_, rfl⟩
      rw [← hL0] at hcr
      have hl0 : L0 ≤ 32 := by rw [hL0]; exact HLen.out 0 hnx
      have HL0 := Lib.hid hL0
      have hnn : ((n : Int) == 0) = false := by simp; omega
      have hnp : 0 < n := by omega
      have hnp' : (0 : Int) < (n : Int) := by omega
      have HCr := Lib.hid hcr
      clear hL0 hn0
      by_cases hk2 : L0 < 2
      · have hk2' : decide ((L0 : Int) < 2) = true := by simp; omega
        have HF := Lib.hid (HT.out.trans (parV_no (xss := xss) (fun h => by have := h.2.2.1; have := HL0.out; omega)))
        have HW := Lib.hid hW
        rw [hW] at hc0 hc1 hcr
        clear hW hk2
        go_enter Tryz.func48, Tryz.ntmps48
        go_wp2
        refine bodyPost_ret (v := .tuple #[.agg #[.int .i64 0, .int .i64 0, .int .i64 0, .int .i64 0, .int .i64 0], .bool false]) (by simp [results, Tryz.results48, go_sem]) rfl ⟨by rw [HF.out], ?_⟩
        rw [HW.out] at HB0
        exact HB0.out
      · have hk2' : decide ((L0 : Int) < 2) = false := by simp; omega
        have hPr := fun (W' : World) (hb : Below W.heap.size W W') => pairCounts_c W' P (some ⟨b0, off0, none⟩) n c R xss (HR.out.below hb) HN.out HD.out
        have HP0 := Lib.hid (hPr W (Below.refl _ _))
        have HW := Lib.hid hW
        rw [hW] at hc0 hc1 hcr
        have HP1 := Lib.hid (HW.out ▸ HP0.out)
        clear hW hPr
        go_enter Tryz.func48, Tryz.ntmps48
        go_wp2_with fail
        rw [← HW.out]
        refine (HP0.out).mono ?_
        rintro e w5 ⟨⟨A5, n5, c5, rfl, hn5, ho5⟩, hb5⟩
        have hpos := pairL_pos xss (P := P) (by omega)
        have hle := pairL_len P xss
        have hPP : P * P ≤ 32 * 32 := Nat.mul_le_mul hP2 hP2
        have h5 : n5 ≤ 1024 := by omega
        have h50 : 0 < n5 := by omega
        have HN5 := Lib.hid hn5
        have HO5 := Lib.hid ho5
        have HB5 := Lib.hid (HB0.out.trans (hb5.mono HB0.out.size))
        have HX5 := Lib.hid (HX.out.below hb5)
        have HR5 := Lib.hid (HR.out.below hb5)
        have HZ5 := Lib.hid (HZ.out.step (by have := HS2.out; omega) hb5)
        have hz5 := hb5.size
        obtain ⟨g5, e5, hg50, hg51, hv0, _⟩ := ho5.at_ (k := 0) (by omega)
        subst e5
        obtain ⟨v0, hv⟩ : ∃ v0, v0 = nth (pairL P xss) 0 := ⟨_, rfl⟩
        rw [← hv] at hv0
        have HV := Lib.hid hv
        have hc05 := HX5.out.c0
        have hc15 := HX5.out.c1
        have hcr5 := (hb5.cell (p := ⟨b0, off0, none⟩) hb0).trans HCr.out
        clear hn5 ho5 hb5 hpos hle hPP hc0 hc1 hcr hv hnn hk2'
        go_wp2
        go_loop [32] (fun i => ∃ k : Nat, k ≤ n ∧ i = .int .i64 k ∧ Hid (∀ j, j < k → (row xss j).length = L0)) (fun i => n - (intOf i).toNat)
        case atStart => exact ⟨0, Nat.zero_le _, rfl, fun j hj => absurd hj (by omega)⟩
        case round =>
          obtain ⟨k, hk, rfl, hP⟩ := hrel
          by_cases hlt : k < n
          · have hkx : k < xss.length := by rw [HN.out]; exact hlt
            obtain ⟨b1, off1, e1, hb1, hcc⟩ := HR5.out.at_ k hkx
            injection e1 with e1
            injection e1 with e1 e2
            subst e1 e2
            have hlk := HLen.out k hkx
            obtain ⟨q, hq⟩ : ∃ q, q = (row xss k).length := ⟨_, rfl⟩
            rw [← hq] at hcc hlk
            have HQ := Lib.hid hq
            clear hq
            by_cases hqe : q = L0
            · have hne : ((q : Int) != (L0 : Int)) = false := by simp [hqe]
              have HP := Lib.hid (show ∀ j, j < k + 1 → (row xss j).length = L0 from fun j hj => by
                by_cases e : j = k
                · subst e; exact HQ.out.symm.trans hqe
                · exact hP.out j (by omega))
              clear hqe
              go_wp2
              go_round
              case rel => exact ⟨k + 1, by omega, by go_num, HP⟩
              case measure => simp [intOf]; omega
            · have hne : ((q : Int) != (L0 : Int)) = true := by simp; omega
              have HF := Lib.hid (HT.out.trans (parV_no (xss := xss) (fun h => by have := h.2.2.2.1 k hkx; rw [← HQ.out, ← HL0.out] at this; exact hqe this)))
              clear hqe
              have z := HZ5.out
              have z0 := z.c0
              have z1 := z.c1
              have z2 := z.c2
              have z3 := z.c3
              have z4 := z.c4
              have y0 := z.f0
              have y1 := z.f1
              have y2 := z.f2
              have y3 := z.f3
              have y4 := z.f4
              clear z
              go_wp2
              refine bodyPost_ret (v := .tuple #[.agg #[.int .i64 0, .int .i64 0, .int .i64 0, .int .i64 0, .int .i64 0], .bool false]) (by simp [results, Tryz.results48, go_sem, z0, z1, z2, z3, z4]) rfl ⟨by rw [HF.out], ?_⟩
              exact below_set5 HB5.out (by omega)
          · obtain rfl : k = n := by omega
            have hj2 : (0 : Int) < (n5 : Int) := by omega
            go_wp2
            go_loop [48] (fun i => ∃ j : Nat, j ≤ n5 ∧ i = .int .i64 j ∧ Hid (∀ t, t < j → nth (pairL P xss) t = v0)) (fun i => n5 - (intOf i).toNat)
            case atStart => exact ⟨0, Nat.zero_le _, rfl, fun j hj => absurd hj (by omega)⟩
            case round =>
              obtain ⟨j, hj, rfl, hQ⟩ := hrel
              by_cases hlt5 : j < n5
              · obtain ⟨g6, e6, _, _, hvj, _⟩ := HO5.out.at_ (k := j) (by rw [HN5.out]; exact hlt5)
                injection e6 with e6
                injection e6 with e6
                subst e6
                obtain ⟨vj, hvj2⟩ : ∃ vj, vj = nth (pairL P xss) j := ⟨_, rfl⟩
                rw [← hvj2] at hvj
                have HVj := Lib.hid hvj2
                clear hvj2
                by_cases hv : vj = v0
                · have hne : (vj != v0) = false := by simp [hv]
                  have HQ2 := Lib.hid (show ∀ t, t < j + 1 → nth (pairL P xss) t = v0 from fun t ht => by
                    by_cases e : t = j
                    · subst e; exact HVj.out.symm.trans hv
                    · exact hQ.out t (by omega))
                  clear hv
                  go_wp2
                  go_round
                  case rel => exact ⟨j + 1, by omega, by go_num, HQ2⟩
                  case measure => simp [intOf]; omega
                · have hne : (vj != v0) = true := by rw [bne_iff_ne]; exact hv
                  have HF := Lib.hid (HT.out.trans (parV_no (xss := xss) (fun h => by have := h.2.2.2.2 j (by rw [HN5.out]; exact hlt5); rw [← HVj.out, ← HV.out] at this; exact hv this)))
                  clear hv
                  have z := HZ5.out
                  have z0 := z.c0
                  have z1 := z.c1
                  have z2 := z.c2
                  have z3 := z.c3
                  have z4 := z.c4
                  have y0 := z.f0
                  have y1 := z.f1
                  have y2 := z.f2
                  have y3 := z.f3
                  have y4 := z.f4
                  clear z
                  go_wp2
                  refine bodyPost_ret (v := .tuple #[.agg #[.int .i64 0, .int .i64 0, .int .i64 0, .int .i64 0, .int .i64 0], .bool false]) (by simp [results, Tryz.results48, go_sem, z0, z1, z2, z3, z4]) rfl ⟨by rw [HF.out], ?_⟩
                  exact below_set5 HB5.out (by omega)
              · obtain rfl : j = n5 := by omega
                have HY := Lib.hid (show BalOk P xss from ⟨by omega, hnx, by rw [← HL0.out]; omega, fun k hk => by rw [← HL0.out]; exact hP.out k (by rw [← HN.out]; exact hk), fun i hi => by rw [← HV.out]; exact hQ.out i (by rw [← HN5.out]; exact hi)⟩)
                have HF := Lib.hid (HT.out.trans (parV_yes HY.out))
                have HRep := Lib.hid (fun (W : World) (hb : Below w5.heap.size w5 W) => replicationsOf_c W P _ k c R xss (HR5.out.below hb) HN.out HD.out)
                have HRl := Lib.hid (rpS_len P xss k)
                have hS := Lib.hid (Below.refl w5.heap.size w5)
                have hlt0 : w.heap.size < w5.heap.size := by have := HS2.out; omega
                have hlt1 : w.heap.size + 1 < w5.heap.size := by have := HS2.out; omega
                have hne1 : w.heap.size ≠ w.heap.size + 1 := by omega
                have hne2 : g5 ≠ w.heap.size + 1 := by have := HS2.out; omega
                have hne3 : b0 ≠ w.heap.size + 1 := by
                  obtain ⟨b', o', e', hb', _⟩ := HRw.out.at_ 0 hnx
                  injection e' with e'
                  injection e' with e1' e2'
                  omega
                have ck0 := Lib.hid (fun (w' : World) (hb : Below w5.heap.size w5 w') => (hb.cell (p := ⟨w.heap.size, 0, none⟩) hlt0).trans hc05)
                have ck1 := Lib.hid (fun (w' : World) (hb : Below w5.heap.size w5 w') => (hb.cell (p := ⟨w.heap.size, 1, none⟩) hlt0).trans hc15)
                have ck2 := Lib.hid (fun (w' : World) (hb : Below w5.heap.size w5 w') => (hb.cell (p := ⟨g5, 0, none⟩) hg51).trans hv0)
                have ck4 := Lib.hid (fun (w' : World) (hb : Below w5.heap.size w5 w') => (hb.cell (p := ⟨b0, off0, none⟩) (Nat.lt_of_lt_of_le hb0 hz5)).trans hcr5)
                have ck3 := Lib.hid (fun (w' : World) (hb : Below w5.heap.size w5 w') => HZ5.out.step hlt1 hb)
                clear hc05 hc15 hv0 hcr5
                go_wp2
                refine wp_region_noPanic ?_
                refine wp_region_held_drew (S := (fun w' => w'.cell? ⟨w.heap.size, 0, none⟩ = some (.int .i64 (P : Int)) ∧ w'.cell? ⟨w.heap.size, 1, none⟩ = some (.slice (some ⟨b0, off0, none⟩) k c) ∧ w'.cell? ⟨g5, 0, none⟩ = some (.int .i64 v0) ∧ w'.cell? ⟨b0, off0, none⟩ = some (.slice (R 0).1 L0 (R 0).2))) (by kernel_rfl) ⟨ck0.out _ (below_drewN hS.out 1), ck1.out _ (below_drewN hS.out 1), ck2.out _ (below_drewN hS.out 1), ck4.out _ (below_drewN hS.out 1)⟩ (fun hHeld => ?_)
                refine wpAnyH_take (i := 0) (v := ?_) rfl (by kernel_rfl) (by kernel_rfl) (by kernel_rfl) (fun _ _ _ h => h) (Or.inl ⟨by rfl, ?_⟩) hHeld ?_
                rotate_left
                · (intro w hSw; (try dsimp only at hSw); (go_simp <;> with_reducible rfl))
                try simp only [Act.put, List.getElem_toArray, List.getElem_cons_succ, List.getElem_cons_zero, List.setIfInBounds_toArray, List.set_cons_zero, List.set_cons_succ]
                refine wpAnyH_take (i := 1) (v := ?_) rfl (by kernel_rfl) (by kernel_rfl) (by kernel_rfl) (fun _ _ _ h => h) (Or.inl ⟨by rfl, ?_⟩) hHeld ?_
                rotate_left
                · (intro w hSw; (try dsimp only at hSw); (go_simp <;> with_reducible rfl))
                try simp only [Act.put, List.getElem_toArray, List.getElem_cons_succ, List.getElem_cons_zero, List.setIfInBounds_toArray, List.set_cons_zero, List.set_cons_succ]
                refine wpAnyH_take (i := 2) (v := ?_) rfl (by kernel_rfl) (by kernel_rfl) (by kernel_rfl) (fun _ _ _ h => h) (Or.inl ⟨by rfl, ?_⟩) hHeld ?_
                rotate_left
                · (intro w hSw; (try dsimp only at hSw); (go_simp <;> with_reducible rfl))
                try simp only [Act.put, List.getElem_toArray, List.getElem_cons_succ, List.getElem_cons_zero, List.setIfInBounds_toArray, List.set_cons_zero, List.set_cons_succ]
                refine wpAnyH_take (i := 3) (v := ?_) rfl (by kernel_rfl) (by kernel_rfl) (by kernel_rfl) (fun _ _ _ h => h) (Or.inl ⟨by rfl, ?_⟩) hHeld ?_
                rotate_left
                · (intro w hSw; (try dsimp only at hSw); (go_simp <;> with_reducible rfl))
                try simp only [Act.put, List.getElem_toArray, List.getElem_cons_succ, List.getElem_cons_zero, List.setIfInBounds_toArray, List.set_cons_zero, List.set_cons_succ]
                refine wpAnyH_take (i := 5) (v := ?_) rfl (by kernel_rfl) (by kernel_rfl) (by kernel_rfl) (fun _ _ _ h => h) (Or.inl ⟨by rfl, ?_⟩) hHeld ?_
                rotate_left
                · (intro w hSw; (try dsimp only at hSw); (go_simp <;> with_reducible rfl))
                try simp only [Act.put, List.getElem_toArray, List.getElem_cons_succ, List.getElem_cons_zero, List.setIfInBounds_toArray, List.set_cons_zero, List.set_cons_succ]
                refine wpAnyH_take (i := 9) (v := ?_) rfl (by kernel_rfl) (by kernel_rfl) (by kernel_rfl) (fun _ _ _ h => h) (Or.inl ⟨by rfl, ?_⟩) hHeld ?_
                rotate_left
                · (intro w hSw; (try dsimp only at hSw); (go_simp <;> with_reducible rfl))
                try simp only [Act.put, List.getElem_toArray, List.getElem_cons_succ, List.getElem_cons_zero, List.setIfInBounds_toArray, List.set_cons_zero, List.set_cons_succ]
                refine wpAnyH_take (i := 10) (v := ?_) rfl (by kernel_rfl) (by kernel_rfl) (by kernel_rfl) (fun _ _ _ h => h) (Or.inl ⟨by rfl, ?_⟩) hHeld ?_
                rotate_left
                · (intro w hSw; (try dsimp only at hSw); (go_simp <;> with_reducible rfl))
                try simp only [Act.put, List.getElem_toArray, List.getElem_cons_succ, List.getElem_cons_zero, List.setIfInBounds_toArray, List.set_cons_zero, List.set_cons_succ]
                refine wpAnyH_take (i := 11) (v := ?_) rfl (by kernel_rfl) (by kernel_rfl) (by kernel_rfl) (fun _ _ _ h => h) (Or.inl ⟨by rfl, ?_⟩) hHeld ?_
                rotate_left
                · (intro w hSw; (try dsimp only at hSw); (go_simp <;> with_reducible rfl))
                try simp only [Act.put, List.getElem_toArray, List.getElem_cons_succ, List.getElem_cons_zero, List.setIfInBounds_toArray, List.set_cons_zero, List.set_cons_succ]
                refine wpAnyH_take (i := 12) (v := ?_) rfl (by kernel_rfl) (by kernel_rfl) (by kernel_rfl) (fun _ _ _ h => h) (Or.inl ⟨by rfl, ?_⟩) hHeld ?_
                rotate_left
                · (intro w hSw; (try dsimp only at hSw); (go_simp <;> with_reducible rfl))
                try simp only [Act.put, List.getElem_toArray, List.getElem_cons_succ, List.getElem_cons_zero, List.setIfInBounds_toArray, List.set_cons_zero, List.set_cons_succ]
                refine wpAnyH_take (i := 14) (v := ?_) rfl (by kernel_rfl) (by kernel_rfl) (by kernel_rfl) (fun _ _ _ h => h) (Or.inl ⟨by rfl, ?_⟩) hHeld ?_
                rotate_left
                · (intro w hSw; (try dsimp only at hSw); (go_simp <;> with_reducible rfl))
                try simp only [Act.put, List.getElem_toArray, List.getElem_cons_succ, List.getElem_cons_zero, List.setIfInBounds_toArray, List.set_cons_zero, List.set_cons_succ]
                refine wpAnyH_take (i := 15) (v := ?_) rfl (by kernel_rfl) (by kernel_rfl) (by kernel_rfl) (fun _ _ _ h => h) (Or.inl ⟨by rfl, ?_⟩) hHeld ?_
                rotate_left
                · (intro w hSw; (try dsimp only at hSw); (go_simp <;> with_reducible rfl))
                try simp only [Act.put, List.getElem_toArray, List.getElem_cons_succ, List.getElem_cons_zero, List.setIfInBounds_toArray, List.set_cons_zero, List.set_cons_succ]
                refine wpAnyH_take (i := 16) (v := ?_) rfl (by kernel_rfl) (by kernel_rfl) (by kernel_rfl) (fun _ _ _ h => h) (Or.inl ⟨by rfl, ?_⟩) hHeld ?_
                rotate_left
                · (intro w hSw; (try dsimp only at hSw); (go_simp <;> with_reducible rfl))
                try simp only [Act.put, List.getElem_toArray, List.getElem_cons_succ, List.getElem_cons_zero, List.setIfInBounds_toArray, List.set_cons_zero, List.set_cons_succ]
                refine wpAnyH_ready (rs := [4]) (by kernel_rfl) (by simp) ?_
                refine AllReadyH.cons rfl (fun K hK => ?_) ?_
                · go_simp
                  refine (sizeS_c _ _ _ _).mono ?_
                  rintro e w' ⟨rfl, rfl⟩
                  try go_wp2_with fail
                  refine hK.out _ _ ⟨ck0.out _ (below_drewN hS.out 1), ck1.out _ (below_drewN hS.out 1), ck2.out _ (below_drewN hS.out 1), ck4.out _ (below_drewN hS.out 1)⟩ (fun hHeld => ?_)
                  clear hK K
                  try simp only [Act.put, List.getElem_toArray, List.getElem_cons_succ, List.getElem_cons_zero, List.setIfInBounds_toArray, List.set_cons_zero, List.set_cons_succ]
                  refine wpAnyH_ready (rs := [6]) (by kernel_rfl) (by simp) ?_
                  refine AllReadyH.cons rfl (fun K hK => ?_) ?_
                  · go_simp
                    refine (HRep.out _ (below_drewN hS.out 1)).mono ?_
                    rintro e w8 ⟨⟨A8, n8, c8, rfl, hn8, ho8⟩, hb8⟩
                    have hS0 := hS
                    have hS := Lib.hid ((below_drewN hS0.out 1).trans (hb8.mono hS0.out.size))
                    obtain ⟨g8, e8, _, _, hv8, _⟩ := ho8.at_ (k := 0) (by rw [HRl.out]; omega)
                    subst e8
                    obtain rfl : n8 = P := hn8.symm.trans HRl.out
                    have hP0 : (0 : Int) < (n8 : Int) := by omega
                    have hP00 : 0 < n8 := by omega
                    have z := ck3.out _ hS.out
                    have z0 := z.c0
                    have z1 := z.c1
                    have z2 := z.c2
                    have z3 := z.c3
                    have z4 := z.c4
                    have y0 := z.f0
                    have y1 := z.f1
                    have y2 := z.f2
                    have y3 := z.f3
                    have y4 := z.f4
                    clear z
                    try go_wp2_with fail
                    refine hK.out _ _ ⟨ck0.out _ hS.out, ck1.out _ hS.out, ck2.out _ hS.out, ck4.out _ hS.out⟩ (fun hHeld => ?_)
                    clear hK K
                    try simp only [Act.put, List.getElem_toArray, List.getElem_cons_succ, List.getElem_cons_zero, List.setIfInBounds_toArray, List.set_cons_zero, List.set_cons_succ]
                    refine wpAnyH_take (i := 7) (v := ?_) rfl (by kernel_rfl) (by kernel_rfl) (by kernel_rfl) (fun _ _ _ h => h) (Or.inl ⟨by rfl, ?_⟩) hHeld ?_
                    rotate_left
                    · (intro w hSw; (try dsimp only at hSw); (go_simp <;> with_reducible rfl))
                    try simp only [Act.put, List.getElem_toArray, List.getElem_cons_succ, List.getElem_cons_zero, List.setIfInBounds_toArray, List.set_cons_zero, List.set_cons_succ]
                    refine wpAnyH_ready (rs := [8, 13]) (by kernel_rfl) (by simp) ?_
                    refine AllReadyH.cons rfl (fun K hK => ?_) ?_
                    · go_simp
                      refine hK.out _ _ ⟨ck0.out _ hS.out, ck1.out _ hS.out, ck2.out _ hS.out, ck4.out _ hS.out⟩ (fun hHeld => ?_)
                      clear hK K
                      try simp only [Act.put, List.getElem_toArray, List.getElem_cons_succ, List.getElem_cons_zero, List.setIfInBounds_toArray, List.set_cons_zero, List.set_cons_succ]
                      refine wpAnyH_ready (rs := [13]) (by kernel_rfl) (by simp) ?_
                      refine AllReadyH.cons rfl (fun K hK => ?_) ?_
                      · go_simp
                        refine (sizeI_c _ _ _ _).mono ?_
                        rintro e w' ⟨rfl, rfl⟩
                        try go_wp2_with fail
                        refine hK.out _ _ ⟨ck0.out _ hS.out, ck1.out _ hS.out, ck2.out _ hS.out, ck4.out _ hS.out⟩ (fun hHeld => ?_)
                        clear hK K
                        try simp only [Act.put, List.getElem_toArray, List.getElem_cons_succ, List.getElem_cons_zero, List.setIfInBounds_toArray, List.set_cons_zero, List.set_cons_succ]
                        refine wpAnyH_take (i := 17) (v := ?_) rfl (by kernel_rfl) (by kernel_rfl) (by kernel_rfl) (fun _ _ _ h => h) (Or.inl ⟨by rfl, ?_⟩) hHeld ?_
                        rotate_left
                        · (intro w hSw; (try dsimp only at hSw); (go_simp <;> with_reducible rfl))
                        try simp only [Act.put, List.getElem_toArray, List.getElem_cons_succ, List.getElem_cons_zero, List.setIfInBounds_toArray, List.set_cons_zero, List.set_cons_succ]
                        refine wpAnyH_ready (rs := [18]) (by kernel_rfl) (by simp) ?_
                        refine AllReadyH.cons rfl (fun K hK => ?_) ?_
                        · go_simp
                          refine hK.out _ _ ⟨(cell_set5 hne1).trans (ck0.out _ hS.out), (cell_set5 hne1).trans (ck1.out _ hS.out), (cell_set5 hne2).trans (ck2.out _ hS.out), (cell_set5 hne3).trans (ck4.out _ hS.out)⟩ (fun hHeld => ?_)
                          clear hK K
                          try simp only [Act.put, List.getElem_toArray, List.getElem_cons_succ, List.getElem_cons_zero, List.setIfInBounds_toArray, List.set_cons_zero, List.set_cons_succ]
                          refine wpAnyH_take (i := 19) (v := ?_) rfl (by kernel_rfl) (by kernel_rfl) (by kernel_rfl) (fun _ _ _ h => h) (Or.inl ⟨by rfl, ?_⟩) hHeld ?_
                          rotate_left
                          · (intro w hSw; (try dsimp only at hSw); (go_simp <;> with_reducible rfl))
                          try simp only [Act.put, List.getElem_toArray, List.getElem_cons_succ, List.getElem_cons_zero, List.setIfInBounds_toArray, List.set_cons_zero, List.set_cons_succ]
                          refine wpAnyH_done (by kernel_rfl) ?_ _
                          refine NoPanic.normal ?_
                          have HB9 := Lib.hid (HB5.out.trans (hS.out.mono HB5.out.size))
                          have HFF := Lib.hid (show T = .tuple #[.agg #[.int .i64 (n8 : Int), .int .i64 (k : Int), .int .i64 (nth (rpS n8 xss k) 0), .int .i64 (L0 : Int), .int .i64 v0], .bool true] by rw [HF.out, parA, parR, parL, HN.out, ← HV.out, ← HL0.out])
                          go_wp2
                          refine bodyPost_ret (v := .tuple #[.agg #[.int .i64 (n8 : Int), .int .i64 (k : Int), .int .i64 (nth (rpS n8 xss k) 0), .int .i64 (L0 : Int), .int .i64 v0], .bool true]) (by simp [results, Tryz.results48, go_sem, z0, z1, z2, z3, z4]) rfl ⟨by rw [HFF.out], ?_⟩
                          exact below_set5 HB9.out (by omega)
                        exact AllReadyH.nil
                      exact AllReadyH.nil
                    refine AllReadyH.cons rfl (fun K hK => ?_) ?_
                    · go_simp
                      refine (sizeI_c _ _ _ _).mono ?_
                      rintro e w' ⟨rfl, rfl⟩
                      try go_wp2_with fail
                      refine hK.out _ _ ⟨ck0.out _ hS.out, ck1.out _ hS.out, ck2.out _ hS.out, ck4.out _ hS.out⟩ (fun hHeld => ?_)
                      clear hK K
                      try simp only [Act.put, List.getElem_toArray, List.getElem_cons_succ, List.getElem_cons_zero, List.setIfInBounds_toArray, List.set_cons_zero, List.set_cons_succ]
                      refine wpAnyH_ready (rs := [8]) (by kernel_rfl) (by simp) ?_
                      refine AllReadyH.cons rfl (fun K hK => ?_) ?_
                      · go_simp
                        refine hK.out _ _ ⟨ck0.out _ hS.out, ck1.out _ hS.out, ck2.out _ hS.out, ck4.out _ hS.out⟩ (fun hHeld => ?_)
                        clear hK K
                        try simp only [Act.put, List.getElem_toArray, List.getElem_cons_succ, List.getElem_cons_zero, List.setIfInBounds_toArray, List.set_cons_zero, List.set_cons_succ]
                        refine wpAnyH_take (i := 17) (v := ?_) rfl (by kernel_rfl) (by kernel_rfl) (by kernel_rfl) (fun _ _ _ h => h) (Or.inl ⟨by rfl, ?_⟩) hHeld ?_
                        rotate_left
                        · (intro w hSw; (try dsimp only at hSw); (go_simp <;> with_reducible rfl))
                        try simp only [Act.put, List.getElem_toArray, List.getElem_cons_succ, List.getElem_cons_zero, List.setIfInBounds_toArray, List.set_cons_zero, List.set_cons_succ]
                        refine wpAnyH_ready (rs := [18]) (by kernel_rfl) (by simp) ?_
                        refine AllReadyH.cons rfl (fun K hK => ?_) ?_
                        · go_simp
                          refine hK.out _ _ ⟨(cell_set5 hne1).trans (ck0.out _ hS.out), (cell_set5 hne1).trans (ck1.out _ hS.out), (cell_set5 hne2).trans (ck2.out _ hS.out), (cell_set5 hne3).trans (ck4.out _ hS.out)⟩ (fun hHeld => ?_)
                          clear hK K
                          try simp only [Act.put, List.getElem_toArray, List.getElem_cons_succ, List.getElem_cons_zero, List.setIfInBounds_toArray, List.set_cons_zero, List.set_cons_succ]
                          refine wpAnyH_take (i := 19) (v := ?_) rfl (by kernel_rfl) (by kernel_rfl) (by kernel_rfl) (fun _ _ _ h => h) (Or.inl ⟨by rfl, ?_⟩) hHeld ?_
                          rotate_left
                          · (intro w hSw; (try dsimp only at hSw); (go_simp <;> with_reducible rfl))
                          try simp only [Act.put, List.getElem_toArray, List.getElem_cons_succ, List.getElem_cons_zero, List.setIfInBounds_toArray, List.set_cons_zero, List.set_cons_succ]
                          refine wpAnyH_done (by kernel_rfl) ?_ _
                          refine NoPanic.normal ?_
                          have HB9 := Lib.hid (HB5.out.trans (hS.out.mono HB5.out.size))
                          have HFF := Lib.hid (show T = .tuple #[.agg #[.int .i64 (n8 : Int), .int .i64 (k : Int), .int .i64 (nth (rpS n8 xss k) 0), .int .i64 (L0 : Int), .int .i64 v0], .bool true] by rw [HF.out, parA, parR, parL, HN.out, ← HV.out, ← HL0.out])
                          go_wp2
                          refine bodyPost_ret (v := .tuple #[.agg #[.int .i64 (n8 : Int), .int .i64 (k : Int), .int .i64 (nth (rpS n8 xss k) 0), .int .i64 (L0 : Int), .int .i64 v0], .bool true]) (by simp [results, Tryz.results48, go_sem, z0, z1, z2, z3, z4]) rfl ⟨by rw [HFF.out], ?_⟩
                          exact below_set5 HB9.out (by omega)
                        exact AllReadyH.nil
                      exact AllReadyH.nil
                    exact AllReadyH.nil
                  exact AllReadyH.nil
                exact AllReadyH.nil
end Go.Proofs.YtmmkmkbpgcbehaaGreat
