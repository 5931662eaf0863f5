/-
  Orders of planes, triple systems: AffineOrder, ProjectiveOrder, IsTripleSystem of the program; l12Affine, l12Projective, l11Ok and theirs of the reference. Conditions: those of each theorem.
-/
import Derived.Test.YtmmkmkbpgcbehaaGreatPOrder
namespace Go.Proofs.YtmmkmkbpgcbehaaGreat
open Go.RowKit
set_option linter.unusedVariables false
set_option linter.unusedSimpArgs false

/-- The order of an affine plane, or 0; of a projective plane, or 0; a triple system. -/
def affOk (P : Nat) (xss : List (List Int)) : Prop := BalOk P xss ∧ parL P xss = 1 ∧ (row xss 0).length * (row xss 0).length = P
instance (P : Nat) (xss : List (List Int)) : Decidable (affOk P xss) := by unfold affOk; infer_instance
def affI (p : Int) (xss : List (List Int)) : Int := if dsgB p xss = true ∧ affOk p.toNat xss then ((row xss 0).length : Int) else 0
def prjOk (P : Nat) (xss : List (List Int)) : Prop := BalOk P xss ∧ parL P xss = 1 ∧ 3 ≤ (row xss 0).length ∧ vP ((row xss 0).length - 1) = P
instance (P : Nat) (xss : List (List Int)) : Decidable (prjOk P xss) := by unfold prjOk; infer_instance
def prjI (p : Int) (xss : List (List Int)) : Int := if dsgB p xss = true ∧ prjOk p.toNat xss then ((row xss 0).length : Int) - 1 else 0
def tripOk (P : Nat) (xss : List (List Int)) : Prop := BalOk P xss ∧ (row xss 0).length = 3 ∧ parL P xss = 1
instance (P : Nat) (xss : List (List Int)) : Decidable (tripOk P xss) := by unfold tripOk; infer_instance
def tripB (p : Int) (xss : List (List Int)) : Bool := dsgB p xss && decide (tripOk p.toNat xss)

set_option maxHeartbeats 4000000 in
theorem l11Ok_c (w : World) (Bx : Nat) (p : Int) (A : Option Addr) (n c : Nat) (R : Spine) (xss : List (List Int)) (hx : BoxD w Bx p A n c) (hr : RdM w A c R xss) (hn : xss.length = n) :
    Calls Tryz.prog 21 #[.pointer (some ⟨Bx, 0, none⟩)] w (PostV w (.bool (tripB p xss))) := by
  have h0 : dsgB p xss = false → tripB p xss = false := fun h => by unfold tripB; rw [h]; rfl
  have h1 : ∀ P : Nat, p = (P : Int) → DsgOk p xss → tripB p xss = decide (tripOk P xss) := fun P e hD => by
    unfold tripB
    rw [show p.toNat = P by omega, dsgB_true.2 hD]
    rfl
  generalize tripB p xss = T at *
  have hO := l10Ok_c w Bx A n c R xss p hx hr hn
  rcases hd : dsgB p xss with _ | _
  · rw [hd] at hO
    have HF := Lib.hid (h0 hd)
    have HO := Lib.hid hO
    clear hO hd hx hr hn h0 h1
    go_enter Tryz.func21, Tryz.ntmps21
    go_wp2_with fail
    refine (HO.out).mono ?_
    rintro e w1 ⟨rfl, q0, rfl⟩
    go_wp2
    go_ret
    exact ⟨by rw [HF.out]; rfl, below_drewN (Below.refl _ _) q0⟩
  rw [hd] at hO
  have HO := Lib.hid hO
  have hD := dsgB_true.1 hd
  obtain ⟨P, rfl⟩ : ∃ P : Nat, p = (P : Int) := ⟨p.toNat, by have := hD.1.1; omega⟩
  have hP1 : 1 ≤ P := by have := hD.1.1; omega
  have hP2 : P ≤ 32 := by have := hD.1.2; omega
  have HC := Lib.hid (fun (W : World) (hb : Below w.heap.size w W) => l10Parameters_c W Bx P A n c R xss (hx.below hb) (hr.below hb) hn hD)
  have HD := Lib.hid hD
  have H1 := Lib.hid (h1 P rfl hD)
  by_cases hbal : BalOk P xss
  · skip
    rw [parV_yes hbal] at HC
    have hl0 : (row xss 0).length ≤ 32 := Nat.le_trans (setB_len (hD.rows 0 hbal.2.1)) hP2
    have hl2 : 2 ≤ (row xss 0).length := hbal.2.2.1
    have HBal := Lib.hid hbal
    unfold parA at HC
    obtain ⟨N, hN⟩ : ∃ N : Int, N = ((row xss 0).length : Int) - 1 := ⟨_, rfl⟩
    obtain ⟨L, hL⟩ : ∃ L, L = parL P xss := ⟨_, rfl⟩
    rw [show ((row xss 0).length : Int) = N + 1 by omega, ← hL] at HC
    have HL := Lib.hid hL
    have HNn := Lib.hid (show ((row xss 0).length : Int) = N + 1 by omega)
    have hN1 : 1 ≤ N := by omega
    have hN2 : N ≤ 31 := by omega
    have HAff := Lib.hid (show tripOk P xss ↔ N + 1 = 3 ∧ L = 1 from by
      unfold tripOk
      rw [← hL]
      have := HNn.out
      constructor
      · rintro ⟨_, a, b⟩; exact ⟨by omega, b⟩
      · rintro ⟨a, b⟩; exact ⟨HBal.out, by omega, b⟩)
    generalize parR P xss = Rr at *
    clear hO hd hr hn h0 h1 hD hbal hN hL hl0 hl2 hx
    by_cases hK3 : N + 1 = 3
    · have hd0 : (N + 1 == 3) = true := by simp [hK3]
      by_cases hL1 : L = 1
      · have hd1 : (L == 1) = true := by simp [hL1]
        have HF := Lib.hid (show T = true by rw [H1.out]; exact decide_eq_true (HAff.out.2 ⟨hK3, hL1⟩))
        clear hL1 hK3
        go_enter Tryz.func21, Tryz.ntmps21
        go_wp2_with fail
        refine (HO.out).mono ?_
        rintro e w1 ⟨rfl, q0, rfl⟩
        have HB1 := Lib.hid (below_drewN (Below.refl w.heap.size w) q0)
        go_wp2_with fail
        refine (HC.out _ HB1.out).mono ?_
        rintro e w2 ⟨rfl, hb2⟩
        have HB2 := Lib.hid (HB1.out.trans (hb2.mono HB1.out.size))
        have hz2 := HB2.out.size
        clear hb2
        go_wp2
        go_ret
        exact ⟨ret_b HF.out.symm, HB2.out.alloc hz2 _⟩
      · have hd1 : (L == 1) = false := by simp [hL1]
        have HF := Lib.hid (show T = false by rw [H1.out]; exact decide_eq_false (fun h => hL1 (HAff.out.1 h).2))
        clear hL1 hK3
        go_enter Tryz.func21, Tryz.ntmps21
        go_wp2_with fail
        refine (HO.out).mono ?_
        rintro e w1 ⟨rfl, q0, rfl⟩
        have HB1 := Lib.hid (below_drewN (Below.refl w.heap.size w) q0)
        go_wp2_with fail
        refine (HC.out _ HB1.out).mono ?_
        rintro e w2 ⟨rfl, hb2⟩
        have HB2 := Lib.hid (HB1.out.trans (hb2.mono HB1.out.size))
        have hz2 := HB2.out.size
        clear hb2
        go_wp2
        go_ret
        exact ⟨ret_b HF.out.symm, HB2.out.alloc hz2 _⟩
    · have hd0 : (N + 1 == 3) = false := by simp [hK3]
      have HF := Lib.hid (show T = false by rw [H1.out]; exact decide_eq_false (fun h => hK3 (HAff.out.1 h).1))
      clear hK3
      go_enter Tryz.func21, Tryz.ntmps21
      go_wp2_with fail
      refine (HO.out).mono ?_
      rintro e w1 ⟨rfl, q0, rfl⟩
      have HB1 := Lib.hid (below_drewN (Below.refl w.heap.size w) q0)
      go_wp2_with fail
      refine (HC.out _ HB1.out).mono ?_
      rintro e w2 ⟨rfl, hb2⟩
      have HB2 := Lib.hid (HB1.out.trans (hb2.mono HB1.out.size))
      have hz2 := HB2.out.size
      clear hb2
      go_wp2
      go_ret
      exact ⟨ret_b HF.out.symm, HB2.out.alloc hz2 _⟩
  · rw [parV_no hbal] at HC
    have HF := Lib.hid (show T = false by rw [H1.out]; exact decide_eq_false (fun h => hbal h.1))
    clear hO hd hr hn h0 h1 hD hbal hx
    go_enter Tryz.func21, Tryz.ntmps21
    go_wp2_with fail
    refine (HO.out).mono ?_
    rintro e w1 ⟨rfl, q0, rfl⟩
    have HB1 := Lib.hid (below_drewN (Below.refl w.heap.size w) q0)
    go_wp2_with fail
    refine (HC.out _ HB1.out).mono ?_
    rintro e w2 ⟨rfl, hb2⟩
    have HB2 := Lib.hid (HB1.out.trans (hb2.mono HB1.out.size))
    have hz2 := HB2.out.size
    clear hb2
    go_wp2
    go_ret
    exact ⟨ret_b HF.out.symm, HB2.out.alloc hz2 _⟩

set_option maxHeartbeats 4000000 in
theorem IsTriple_c (w : World) (p : Int) (A : Option Addr) (n c : Nat) (R : Spine) (xss : List (List Int)) (hr : RdM w A c R xss) (hn : xss.length = n) :
    Calls Tryz.prog 24 #[.agg #[.int .i64 p, .slice A n c]] w (PostV w (.bool (tripB p xss))) := by
  have h0 : dsgB p xss = false → tripB p xss = false := fun h => by unfold tripB; rw [h]; rfl
  have h1 : ∀ P : Nat, p = (P : Int) → DsgOk p xss → tripB p xss = decide (tripOk P xss) := fun P e hD => by
    unfold tripB
    rw [show p.toNat = P by omega, dsgB_true.2 hD]
    rfl
  generalize tripB p xss = T at *
  have hB0 := below_boxed w (.cells #[.int .i64 p, .slice A n c] 28)
  have hX := BoxD.made w p A n c 28
  have hO := ValidDesign_c _ p A n c R xss (hr.below hB0) hn
  have HB0 := Lib.hid hB0
  have HX := Lib.hid hX
  rcases hd : dsgB p xss with _ | _
  · rw [hd] at hO
    have HF := Lib.hid (h0 hd)
    have HO := Lib.hid hO
    clear hO hB0 hX hd hr hn h0 h1
    go_enter Tryz.func24, Tryz.ntmps24
    go_wp2_with fail
    refine (HO.out).mono ?_
    rintro e w1 ⟨rfl, hb1⟩
    have hB := HB0.out.trans (hb1.mono HB0.out.size)
    go_wp2
    go_ret
    exact ⟨by rw [HF.out]; rfl, hB⟩
  rw [hd] at hO
  have HO := Lib.hid hO
  have hD := dsgB_true.1 hd
  obtain ⟨P, rfl⟩ : ∃ P : Nat, p = (P : Int) := ⟨p.toNat, by have := hD.1.1; omega⟩
  have hP1 : 1 ≤ P := by have := hD.1.1; omega
  have hP2 : P ≤ 32 := by have := hD.1.2; omega
  have HC := Lib.hid (fun (W : World) (hb : Below w.heap.size w W) => parametersOf_c W P A n c R xss (hr.below hb) hn hD)
  have HD := Lib.hid hD
  have H1 := Lib.hid (h1 P rfl hD)
  by_cases hbal : BalOk P xss
  · skip
    rw [parV_yes hbal] at HC
    have hl0 : (row xss 0).length ≤ 32 := Nat.le_trans (setB_len (hD.rows 0 hbal.2.1)) hP2
    have hl2 : 2 ≤ (row xss 0).length := hbal.2.2.1
    have HBal := Lib.hid hbal
    unfold parA at HC
    obtain ⟨N, hN⟩ : ∃ N : Int, N = ((row xss 0).length : Int) - 1 := ⟨_, rfl⟩
    obtain ⟨L, hL⟩ : ∃ L, L = parL P xss := ⟨_, rfl⟩
    rw [show ((row xss 0).length : Int) = N + 1 by omega, ← hL] at HC
    have HL := Lib.hid hL
    have HNn := Lib.hid (show ((row xss 0).length : Int) = N + 1 by omega)
    have hN1 : 1 ≤ N := by omega
    have hN2 : N ≤ 31 := by omega
    have HAff := Lib.hid (show tripOk P xss ↔ N + 1 = 3 ∧ L = 1 from by
      unfold tripOk
      rw [← hL]
      have := HNn.out
      constructor
      · rintro ⟨_, a, b⟩; exact ⟨by omega, b⟩
      · rintro ⟨a, b⟩; exact ⟨HBal.out, by omega, b⟩)
    generalize parR P xss = Rr at *
    clear hO hd hr hn h0 h1 hD hbal hN hL hl0 hl2 hB0 hX
    by_cases hK3 : N + 1 = 3
    · have hd0 : (N + 1 == 3) = true := by simp [hK3]
      by_cases hL1 : L = 1
      · have hd1 : (L == 1) = true := by simp [hL1]
        have HF := Lib.hid (show T = true by rw [H1.out]; exact decide_eq_true (HAff.out.2 ⟨hK3, hL1⟩))
        clear hL1 hK3
        go_enter Tryz.func24, Tryz.ntmps24
        go_wp2_with fail
        refine (HO.out).mono ?_
        rintro e w1 ⟨rfl, hb1⟩
        have HB1 := Lib.hid (HB0.out.trans (hb1.mono HB0.out.size))
        have hx := HX.out.below hb1
        have hc0 := hx.c0
        have hc1 := hx.c1
        clear hb1 hx
        go_wp2_with fail
        refine (HC.out _ HB1.out).mono ?_
        rintro e w2 ⟨rfl, hb2⟩
        have HB2 := Lib.hid (HB1.out.trans (hb2.mono HB1.out.size))
        have hz2 := HB2.out.size
        clear hb2 hc0 hc1
        go_wp2
        go_ret
        exact ⟨ret_b HF.out.symm, HB2.out.alloc hz2 _⟩
      · have hd1 : (L == 1) = false := by simp [hL1]
        have HF := Lib.hid (show T = false by rw [H1.out]; exact decide_eq_false (fun h => hL1 (HAff.out.1 h).2))
        clear hL1 hK3
        go_enter Tryz.func24, Tryz.ntmps24
        go_wp2_with fail
        refine (HO.out).mono ?_
        rintro e w1 ⟨rfl, hb1⟩
        have HB1 := Lib.hid (HB0.out.trans (hb1.mono HB0.out.size))
        have hx := HX.out.below hb1
        have hc0 := hx.c0
        have hc1 := hx.c1
        clear hb1 hx
        go_wp2_with fail
        refine (HC.out _ HB1.out).mono ?_
        rintro e w2 ⟨rfl, hb2⟩
        have HB2 := Lib.hid (HB1.out.trans (hb2.mono HB1.out.size))
        have hz2 := HB2.out.size
        clear hb2 hc0 hc1
        go_wp2
        go_ret
        exact ⟨ret_b HF.out.symm, HB2.out.alloc hz2 _⟩
    · have hd0 : (N + 1 == 3) = false := by simp [hK3]
      have HF := Lib.hid (show T = false by rw [H1.out]; exact decide_eq_false (fun h => hK3 (HAff.out.1 h).1))
      clear hK3
      go_enter Tryz.func24, Tryz.ntmps24
      go_wp2_with fail
      refine (HO.out).mono ?_
      rintro e w1 ⟨rfl, hb1⟩
      have HB1 := Lib.hid (HB0.out.trans (hb1.mono HB0.out.size))
      have hx := HX.out.below hb1
      have hc0 := hx.c0
      have hc1 := hx.c1
      clear hb1 hx
      go_wp2_with fail
      refine (HC.out _ HB1.out).mono ?_
      rintro e w2 ⟨rfl, hb2⟩
      have HB2 := Lib.hid (HB1.out.trans (hb2.mono HB1.out.size))
      have hz2 := HB2.out.size
      clear hb2 hc0 hc1
      go_wp2
      go_ret
      exact ⟨ret_b HF.out.symm, HB2.out.alloc hz2 _⟩
  · rw [parV_no hbal] at HC
    have HF := Lib.hid (show T = false by rw [H1.out]; exact decide_eq_false (fun h => hbal h.1))
    clear hO hd hr hn h0 h1 hD hbal hB0 hX
    go_enter Tryz.func24, Tryz.ntmps24
    go_wp2_with fail
    refine (HO.out).mono ?_
    rintro e w1 ⟨rfl, hb1⟩
    have HB1 := Lib.hid (HB0.out.trans (hb1.mono HB0.out.size))
    have hx := HX.out.below hb1
    have hc0 := hx.c0
    have hc1 := hx.c1
    clear hb1 hx
    go_wp2_with fail
    refine (HC.out _ HB1.out).mono ?_
    rintro e w2 ⟨rfl, hb2⟩
    have HB2 := Lib.hid (HB1.out.trans (hb2.mono HB1.out.size))
    have hz2 := HB2.out.size
    clear hb2 hc0 hc1
    go_wp2
    go_ret
    exact ⟨ret_b HF.out.symm, HB2.out.alloc hz2 _⟩

theorem implIsTripleSystem_c (w : World) (p : Int) (hp : -9223372036854775808 ≤ p ∧ p ≤ 9223372036854775807) (A : Option Addr) (n c : Nat) (R : Spine) (xss : List (List Int)) (hr : RdM w A c R xss) (hn : xss.length = n) (hw : WfM xss) (hz : (n : Int) + (tot xss : Nat) ≤ 1048576) :
    Calls Tryz.prog 24 #[.agg #[.int .i64 p, .slice A n c]] w (PostV w (.bool (tripB p xss))) := IsTriple_c w p A n c R xss hr hn
end Go.Proofs.YtmmkmkbpgcbehaaGreat
