/-
  planeOrder of the program, for affine and for projective planes. Conditions: those of each theorem.
-/
import Derived.Test.YtcdbbcnoleilfaaParams
namespace Go.Proofs.Ytcdbbcnoleilfaa
open Go.RowKit
set_option linter.unusedVariables false
set_option linter.unusedSimpArgs false

def vA (m : Nat) : Nat := m * m
def kA (m : Nat) : Nat := m
def vP (m : Nat) : Nat := m * m + m + 1
def kP (m : Nat) : Nat := m + 1
theorem vA_ge (m : Nat) : m ≤ vA m + 1 := by unfold vA; rcases m with _ | m; omega; have := Nat.le_mul_of_pos_left (m + 1) (show 0 < m + 1 by omega); omega
theorem vP_ge (m : Nat) : m ≤ vP m + 1 := by unfold vP; omega
theorem vA_mono {m j : Nat} (h : m ≤ j) : vA m ≤ vA j := Nat.mul_le_mul h h
theorem vP_mono {m j : Nat} (h : m ≤ j) : vP m ≤ vP j := by unfold vP; have := Nat.mul_le_mul h h; omega
theorem sq_le {m : Nat} (h : m ≤ 34) : m * m ≤ 1156 := Nat.mul_le_mul h h
theorem vA_c (m : Nat) (h : m ≤ 34) (W : World) : Calls Try.prog 97 #[.int .i64 (m : Int)] W fun e w' => e = .returned (.int .i64 ((vA m : Nat) : Int)) ∧ W = w' := by
  have h1 := sq_le h
  obtain ⟨s, hs⟩ : ∃ s, s = m * m := ⟨_, rfl⟩
  rw [← hs] at h1
  have hmul : (m : Int) * (m : Int) = (s : Int) := by rw [hs]; simp
  rw [show vA m = s from hs.symm]
  clear hs h
  go_enter Try.func97, Try.ntmps97
  go_wp2
  go_ret
  exact ⟨rfl, rfl⟩
theorem kA_c (m : Nat) (h : m ≤ 34) (W : World) : Calls Try.prog 98 #[.int .i64 (m : Int)] W fun e w' => e = .returned (.int .i64 ((kA m : Nat) : Int)) ∧ W = w' := by
  rw [show kA m = m from rfl]
  go_enter Try.func98, Try.ntmps98
  go_wp2
  go_ret
  exact ⟨rfl, rfl⟩
set_option maxHeartbeats 8000000 in
theorem affOrder_c (w : World) (p : Int) (A : Option Addr) (n c : Nat) (R : Spine) (xss : List (List Int)) (hr : RdM w A c R xss) (hn : xss.length = n) (T : Int)
    (h0 : dsgB p xss = false → T = 0) (h1 : ∀ P : Nat, p = (P : Int) → DsgOk p xss → ¬ BalOk P xss → T = 0) (h2 : ∀ P : Nat, p = (P : Int) → DsgOk p xss → BalOk P xss → parL P xss ≠ 1 → T = 0)
    (h3 : ∀ P m : Nat, p = (P : Int) → DsgOk p xss → BalOk P xss → parL P xss = 1 → 2 ≤ m → vA m = P → kA m = (row xss 0).length → T = (m : Int))
    (h4 : ∀ P : Nat, p = (P : Int) → DsgOk p xss → BalOk P xss → parL P xss = 1 → (∀ m, 2 ≤ m → vA m = P → kA m = (row xss 0).length → False) → T = 0) :
    Calls Try.prog 96 #[.agg #[.int .i64 p, .slice A n c], .func (.func 97) #[] #[], .func (.func 98) #[] #[]] w (PostV w (.int .i64 T)) := by
  have hB0 := below_boxed w (.cells #[.int .i64 p, .slice A n c] 31)
  have hX := BoxD.made w p A n c 31
  have hO := ValidDesign_c _ p A n c R xss (hr.below hB0) hn
  have HB0 := Lib.hid hB0
  have HX := Lib.hid hX
  rcases hd : dsgB p xss with _ | _
  · rw [hd] at hO
    have HF := Lib.hid (h0 hd)
    have HO := Lib.hid hO
    clear hO hB0 hX hd hr hn h0 h1 h2 h3 h4
    go_enter Try.func96, Try.ntmps96
    go_wp2_with fail
    refine (HO.out).mono ?_
    rintro e w1 ⟨rfl, hb1⟩
    have hB := HB0.out.trans (hb1.mono HB0.out.size)
    go_wp2
    go_ret
    exact ⟨ret_i HF.out.symm, hB⟩
  · rw [hd] at hO
    have HO := Lib.hid hO
    have hD := dsgB_true.1 hd
    obtain ⟨P, rfl⟩ : ∃ P : Nat, p = (P : Int) := ⟨p.toNat, by have := hD.1.1; omega⟩
    have hP1 : 1 ≤ P := by have := hD.1.1; omega
    have hP2 : P ≤ 32 := by have := hD.1.2; omega
    have HC := Lib.hid (fun (W : World) (hb : Below w.heap.size w W) => parametersOf_c W P A n c R xss (hr.below hb) hn hD)
    have HD := Lib.hid hD
    have H1 := Lib.hid (h1 P rfl hD)
    have H2 := Lib.hid (h2 P rfl hD)
    have H3 := Lib.hid (fun m => h3 P m rfl hD)
    have H4 := Lib.hid (h4 P rfl hD)
    by_cases hbal : BalOk P xss
    · rw [parV_yes hbal] at HC
      have hl0 : (row xss 0).length ≤ 32 := Nat.le_trans (setB_len (hD.rows 0 hbal.2.1)) hP2
      have HBal := Lib.hid hbal
      unfold parA at HC
      obtain ⟨K, hK⟩ : ∃ K, K = (row xss 0).length := ⟨_, rfl⟩
      obtain ⟨L, hL⟩ : ∃ L, L = parL P xss := ⟨_, rfl⟩
      rw [← hK, ← hL] at HC
      rw [← hK] at H3 H4 hl0
      rw [← hL] at H2 H3 H4
      generalize parR P xss = Rr at *
      clear hO hB0 hX hd hr hn h0 h1 h2 h3 h4 hD hbal hK hL
      by_cases hL1 : L = 1
      · subst hL1
        go_enter Try.func96, Try.ntmps96
        go_wp2_with fail
        refine (HO.out).mono ?_
        rintro e w1 ⟨rfl, hb1⟩
        have HB1 := Lib.hid (HB0.out.trans (hb1.mono HB0.out.size))
        have hx := HX.out.below hb1
        have hc0 := hx.c0
        have hc1 := hx.c1
        clear hb1 hx
        go_wp2_with fail
        refine (HC.out _ HB1.out).mono ?_
        rintro e w2 ⟨rfl, hb2⟩
        have HB2 := Lib.hid (HB1.out.trans (hb2.mono HB1.out.size))
        have hz2 := HB2.out.size
        clear hb2 hc0 hc1
        go_wp2
        have HB3 := Lib.hid (HB2.out.alloc hz2 (.cells #[.int .i64 (P : Int), .int .i64 (xss.length : Int), .int .i64 Rr, .int .i64 (K : Int), .int .i64 1] 93))
        have hq0 : (w2.alloc (.cells #[.int .i64 (P : Int), .int .i64 (xss.length : Int), .int .i64 Rr, .int .i64 (K : Int), .int .i64 1] 93)).cell? ⟨w2.heap.size, 0, none⟩ = some (.int .i64 (P : Int)) := by simp [go_sem]
        have hq3 : (w2.alloc (.cells #[.int .i64 (P : Int), .int .i64 (xss.length : Int), .int .i64 Rr, .int .i64 (K : Int), .int .i64 1] 93)).cell? ⟨w2.heap.size, 3, none⟩ = some (.int .i64 (K : Int)) := by simp [go_sem]
        have hq4 : (w2.alloc (.cells #[.int .i64 (P : Int), .int .i64 (xss.length : Int), .int .i64 Rr, .int .i64 (K : Int), .int .i64 1] 93)).cell? ⟨w2.heap.size, 4, none⟩ = some (.int .i64 1) := by simp [go_sem]
        generalize (w2.alloc (.cells #[.int .i64 (P : Int), .int .i64 (xss.length : Int), .int .i64 Rr, .int .i64 (K : Int), .int .i64 1] 93)) = w3 at *
        go_loopw [9] (fun i wr => ∃ m : Nat, 2 ≤ m ∧ m ≤ 34 ∧ i = .int .i64 m ∧ Hid (∀ j, 2 ≤ j → j < m → vA j = P → kA j = K → False) ∧ Qt w3 wr) (fun i _ => 40 - (intOf i).toNat)
        case atStart => exact ⟨2, by omega, by omega, rfl, fun j h1 h2 => absurd h2 (by omega), Qt.refl _⟩
        case round =>
          obtain ⟨m, hm2, hm3, rfl, hNo, ⟨q, rfl⟩⟩ := hrel
          have HV := Lib.hid (fun (W : World) => vA_c m hm3 W)
          have HK := Lib.hid (fun (W : World) => kA_c m hm3 W)
          have hmo := vA_ge m
          have hmo' : (m : Int) ≤ ((vA m : Nat) : Int) + 1 := by omega
          clear hmo
          obtain ⟨x, hx⟩ : ∃ x : Int, x = ((vA m : Nat) : Int) := ⟨_, rfl⟩
          obtain ⟨y, hy⟩ : ∃ y : Int, y = ((kA m : Nat) : Int) := ⟨_, rfl⟩
          rw [← hx] at HV hmo'
          rw [← hy] at HK
          have HXx := Lib.hid hx
          have HYy := Lib.hid hy
          clear hx hy
          by_cases hle : x ≤ (P : Int)
          · have hle1 : decide (x ≤ (P : Int)) = true := by simp; omega
            have hm4 : m ≤ 33 := by omega
            by_cases he1 : x = (P : Int)
            · have he1' : (x == (P : Int)) = true := by simp [he1]
              by_cases he2 : y = (K : Int)
              · have he2' : (y == (K : Int)) = true := by simp [he2]
                have HF := Lib.hid (H3.out m HBal.out (by first | exact rfl | trivial) hm2 (by have := HXx.out; omega) (by have := HYy.out; omega))
                clear he1 he2 hle
                go_wp2
                go_quiet ((go_at_call 97; first | exact quiet_drN (HV.out _) | exact quiet_dr (HV.out _)))
                go_wp2
                go_quiet ((first | (go_at_call 97; first | exact quiet_drN (HV.out _) | exact quiet_dr (HV.out _)) | (go_at_call 98; first | exact quiet_drN (HK.out _) | exact quiet_dr (HK.out _))))
                go_wp2
                go_ret
                exact ⟨ret_i HF.out.symm, by first | exact below_drewN (below_drewN (below_drewN HB3.out _) _) _ | exact below_drewN (below_drewN HB3.out _) _ | exact below_drewN HB3.out _⟩
              · have he2' : (y == (K : Int)) = false := by simp [he2]
                have HN2 := Lib.hid (show ∀ j, 2 ≤ j → j < m + 1 → vA j = P → kA j = K → False from fun j h1 h2 h3 h4 => by
                  by_cases e : j = m
                  · subst e; exact he2 (by have := HYy.out; omega)
                  · exact hNo.out j h1 (by omega) h3 h4)
                clear he1 he2 hle
                go_wp2
                go_quiet ((go_at_call 97; first | exact quiet_drN (HV.out _) | exact quiet_dr (HV.out _)))
                go_wp2
                go_quiet ((first | (go_at_call 97; first | exact quiet_drN (HV.out _) | exact quiet_dr (HV.out _)) | (go_at_call 98; first | exact quiet_drN (HK.out _) | exact quiet_dr (HK.out _))))
                go_wp2
                go_roundw
                case rel => exact ⟨m + 1, by omega, by omega, by go_num, HN2, by first | exact qt2 _ _ _ | exact ⟨_, by rw [World.drewN_drewN, World.drewN_drewN]⟩ | exact ⟨_, rfl⟩⟩
                case measure => simp [intOf]; omega
            · have he1' : (x == (P : Int)) = false := by simp [he1]
              have HN2 := Lib.hid (show ∀ j, 2 ≤ j → j < m + 1 → vA j = P → kA j = K → False from fun j h1 h2 h3 h4 => by
                by_cases e : j = m
                · subst e; exact he1 (by have := HXx.out; omega)
                · exact hNo.out j h1 (by omega) h3 h4)
              clear he1 hle
              go_wp2
              go_quiet ((go_at_call 97; first | exact quiet_drN (HV.out _) | exact quiet_dr (HV.out _)))
              go_wp2
              go_quiet ((go_at_call 97; first | exact quiet_drN (HV.out _) | exact quiet_dr (HV.out _)))
              go_wp2
              go_roundw
              case rel => exact ⟨m + 1, by omega, by omega, by go_num, HN2, by first | exact qt2 _ _ _ | exact ⟨_, by rw [World.drewN_drewN, World.drewN_drewN]⟩ | exact ⟨_, rfl⟩⟩
              case measure => simp [intOf]; omega
          · have hle1 : decide (x ≤ (P : Int)) = false := by simp; omega
            have HF := Lib.hid (H4.out HBal.out (by first | exact rfl | trivial) (fun j h1 h2 h3 => by
              by_cases e : j < m
              · exact hNo.out j h1 e h2 h3
              · have := vA_mono (show m ≤ j by omega)
                have h9 := HXx.out
                rw [h2] at this
                omega))
            clear hle
            go_wp2
            go_quiet ((go_at_call 97; first | exact quiet_drN (HV.out _) | exact quiet_dr (HV.out _)))
            go_wp2
            go_ret
            exact ⟨ret_i HF.out.symm, by first | exact below_drewN (below_drewN HB3.out _) _ | exact below_drewN HB3.out _⟩
      · have hL1' : (L == 1) = false := by simp [hL1]
        have HF := Lib.hid (H2.out HBal.out hL1)
        clear hL1
        go_enter Try.func96, Try.ntmps96
        go_wp2_with fail
        refine (HO.out).mono ?_
        rintro e w1 ⟨rfl, hb1⟩
        have HB1 := Lib.hid (HB0.out.trans (hb1.mono HB0.out.size))
        have hx := HX.out.below hb1
        have hc0 := hx.c0
        have hc1 := hx.c1
        clear hb1 hx
        go_wp2_with fail
        refine (HC.out _ HB1.out).mono ?_
        rintro e w2 ⟨rfl, hb2⟩
        have HB2 := Lib.hid (HB1.out.trans (hb2.mono HB1.out.size))
        have hz2 := HB2.out.size
        clear hb2 hc0 hc1
        go_wp2
        have HB3 := Lib.hid (HB2.out.alloc hz2 (.cells #[.int .i64 (P : Int), .int .i64 (xss.length : Int), .int .i64 Rr, .int .i64 (K : Int), .int .i64 L] 93))
        have hq4 : (w2.alloc (.cells #[.int .i64 (P : Int), .int .i64 (xss.length : Int), .int .i64 Rr, .int .i64 (K : Int), .int .i64 L] 93)).cell? ⟨w2.heap.size, 4, none⟩ = some (.int .i64 L) := by simp [go_sem]
        generalize (w2.alloc (.cells #[.int .i64 (P : Int), .int .i64 (xss.length : Int), .int .i64 Rr, .int .i64 (K : Int), .int .i64 L] 93)) = w3 at *
        go_loopw [9] (fun i wr => i = .int .i64 2 ∧ wr = w3) (fun _ _ => 0)
        case atStart => exact ⟨rfl, rfl⟩
        case round =>
          obtain ⟨rfl, rfl⟩ := hrel
          go_wp2
          go_quiet (fail)
          go_wp2
          go_ret
          exact ⟨ret_i HF.out.symm, below_drewN HB3.out _⟩
    · rw [parV_no hbal] at HC
      have HF := Lib.hid (H1.out hbal)
      clear hO hB0 hX hd hr hn h0 h1 h2 h3 h4 hD hbal
      go_enter Try.func96, Try.ntmps96
      go_wp2_with fail
      refine (HO.out).mono ?_
      rintro e w1 ⟨rfl, hb1⟩
      have HB1 := Lib.hid (HB0.out.trans (hb1.mono HB0.out.size))
      have hx := HX.out.below hb1
      have hc0 := hx.c0
      have hc1 := hx.c1
      clear hb1 hx
      go_wp2_with fail
      refine (HC.out _ HB1.out).mono ?_
      rintro e w2 ⟨rfl, hb2⟩
      have HB2 := Lib.hid (HB1.out.trans (hb2.mono HB1.out.size))
      have hz2 := HB2.out.size
      clear hb2 hc0 hc1
      go_wp2
      have HB3 := Lib.hid (HB2.out.alloc hz2 (.cells #[.int .i64 0, .int .i64 0, .int .i64 0, .int .i64 0, .int .i64 0] 93))
      generalize (w2.alloc (.cells #[.int .i64 0, .int .i64 0, .int .i64 0, .int .i64 0, .int .i64 0] 93)) = w3 at *
      go_loopw [9] (fun i wr => i = .int .i64 2 ∧ wr = w3) (fun _ _ => 0)
      case atStart => exact ⟨rfl, rfl⟩
      case round =>
        obtain ⟨rfl, rfl⟩ := hrel
        go_wp2
        go_quiet (fail)
        go_wp2
        go_ret
        exact ⟨ret_i HF.out.symm, below_drewN HB3.out _⟩

end Go.Proofs.Ytcdbbcnoleilfaa
