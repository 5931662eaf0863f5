/-
  FamilyLambda: l13Lambda of the reference, familyLambda of the program, and both answers. Conditions: those of each theorem.
-/
import Derived.Test.YtpgmjfgjlddhgaaDiff2
namespace Go.Proofs.Ytpgmjfgjlddhgaa
open Go.RowKit
set_option linter.unusedVariables false
set_option linter.unusedSimpArgs false

def Same1 (t : List Int) (k : Nat) : Prop := ∀ j, 1 ≤ j → j < k → nth t j = nth t 1
instance (t : List Int) (k : Nat) : Decidable (Same1 t k) := by unfold Same1; exact Nat.decidableBallLT k (fun j _ => 1 ≤ j → nth t j = nth t 1) |> fun d => decidable_of_iff _ ⟨fun h j h1 h2 => h j h2 h1, fun h j h2 h1 => h j h1 h2⟩
def lamI (n : Nat) (sets : List (List Int)) : Int := if n < 2 then -1 else if Same1 (incS n sets sets.length) n then nth (incS n sets sets.length) 1 else -1

set_option maxHeartbeats 1000000 in
theorem l13Lambda_c (w : World) (n : Nat) (A : Option Addr) (m c : Nat) (R : Spine) (sets : List (List Int)) (hr : RdM w A c R sets) (hm : sets.length = m) (hok : SetsOk n sets) (hm8 : m ≤ 8) :
    Calls Try.prog 94 #[.int .i64 (n : Int), .slice A m c] w (PostV w (.int .i64 (lamI n sets))) := by
  have hT := l13Table_c w n A m c R sets hr hm hok hm8
  have hn1 := hok.1
  have hn2 := hok.2.1
  unfold lamI
  rw [hm]
  have hlen := length_incS n sets m
  obtain ⟨t, ht⟩ : ∃ t, t = incS n sets m := ⟨_, rfl⟩
  rw [← ht] at hT hlen ⊢
  clear ht hr hm hok hm8
  have HT := Lib.hid hT
  have HLt := Lib.hid hlen
  clear hT hlen
  by_cases h2 : n < 2
  · rw [if_pos h2]
    go_enter Try.func94, Try.ntmps94
    go_wp2_with fail
    refine (HT.out).mono ?_
    rintro e w1 ⟨⟨A1, n1, c1, rfl, hl, ho⟩, hb1⟩
    clear hl ho
    go_wp2
    go_ret
    exact ⟨rfl, hb1⟩
  · rw [if_neg h2]
    obtain ⟨L, hL⟩ : ∃ L, L = (if Same1 t n then nth t 1 else -1) := ⟨_, rfl⟩
    rw [← hL]
    have HL := Lib.hid hL
    clear hL
    go_enter Try.func94, Try.ntmps94
    go_wp2_with fail
    refine (HT.out).mono ?_
    rintro e w1 ⟨⟨A1, n1, c1, rfl, hl, ho⟩, hb1⟩
    obtain rfl : n = n1 := HLt.out.symm.trans hl
    have HO := Lib.hid ho
    clear hl ho
    go_wp2
    go_loopw [6] (fun i wr => ∃ k : Nat, 1 ≤ k ∧ k ≤ n ∧ i = .int .i64 k ∧ Hid (Same1 t k) ∧ Qt w1 wr) (fun i _ => n - (intOf i).toNat)
    case atStart => exact ⟨1, by omega, by omega, rfl, fun j h1 h2 => absurd h2 (by omega), Qt.refl _⟩
    case round =>
      obtain ⟨k, hk1, hk, rfl, hP, ⟨d, rfl⟩⟩ := hrel
      by_cases hlt : k < n
      · obtain ⟨g, rfl, hg1, hg2, hc1, hf1⟩ := HO.out.at_ (k := 1) (by rw [HLt.out]; omega)
        obtain ⟨g', e, hg1', hg2', hc2, hf2⟩ := HO.out.at_ (k := k) (by rw [HLt.out]; omega)
        injection e with e
        injection e with e1 e2
        subst e1
        clear hf1 hf2 hg1' hg2' hg1 e2
        have hi0 : (0 : Int) ≤ (k : Int) := by omega
        have hi1 : (k : Int) < (n : Int) := by omega
        have hi2 : (1 : Int) < (n : Int) := by omega
        by_cases he : nth t k = nth t 1
        · have HP := Lib.hid (show Same1 t (k + 1) from fun j h1 h2 => by
            by_cases e : j = k
            · subst e; exact he
            · exact hP.out j h1 (by omega))
          have hd : (nth t k != nth t 1) = false := by rw [he]; simp
          clear he
          go_wp2
          go_quiet (fail)
          go_wp2
          go_roundw
          case rel => exact ⟨k + 1, by omega, by omega, by go_num, HP.out, (by first | exact qt2 _ _ _ | exact ⟨_, rfl⟩)⟩
          case measure => simp [intOf]; omega
        · have HF := Lib.hid (show -1 = L by
            rw [HL.out, if_neg]
            exact fun h => he (h k hk1 hlt))
          have hd : (nth t k != nth t 1) = true := by rw [bne_iff_ne]; exact he
          clear he
          go_wp2
          go_quiet (fail)
          go_wp2
          go_ret
          exact ⟨ret_i HF.out, hb1.trans (by first | exact (Qt.below (qt2 _ _ _) _) | exact (Qt.below ⟨_, rfl⟩ _))⟩
      · obtain rfl : k = n := by omega
        obtain ⟨g, rfl, hg1, hg2, hc1, hf1⟩ := HO.out.at_ (k := 1) (by rw [HLt.out]; omega)
        have HF := Lib.hid (show nth t 1 = L by
          rw [HL.out, if_pos hP.out])
        clear hg1 hf1
        have hi2 : (1 : Int) < (k : Int) := by omega
        go_wp2
        go_ret
        exact ⟨ret_i HF.out, hb1.trans (Qt.below ⟨_, rfl⟩ _)⟩

set_option maxHeartbeats 1000000 in
set_option maxRecDepth 100000 in
theorem familyLambda_c (w : World) (n : Nat) (A : Option Addr) (m c : Nat) (R : Spine) (sets : List (List Int)) (hr : RdM w A c R sets) (hm : sets.length = m) (hok : SetsOk n sets) (hm8 : m ≤ 8) :
    Calls Try.prog 96 #[.int .i64 (n : Int), .slice A m c] w (PostV w (.tuple #[.int .i64 (if 0 ≤ lamI n sets then lamI n sets else 0), .bool (decide (0 ≤ lamI n sets))])) := by
  have hT := differenceTable_c w n A m c R sets hr hm hok hm8
  have hn1 := hok.1
  have hn2 := hok.2.1
  have hU := (Upto.s (n := n) (sets := sets) (fun i hi => SetsOk.len hok hi)) m (by omega) 1
  unfold lamI
  rw [hm]
  have hlen := length_incS n sets m
  obtain ⟨t, ht⟩ : ∃ t, t = incS n sets m := ⟨_, rfl⟩
  rw [← ht] at hT hlen hU ⊢
  clear ht hr hm hok hm8
  have hU := hU.1
  have HT := Lib.hid hT
  have HLt := Lib.hid hlen
  clear hT hlen
  by_cases h2 : n < 2
  · rw [if_pos h2]
    clear HT
    go_enter Try.func96, Try.ntmps96
    go_wp2
    go_ret2
    exact ⟨rfl, Below.refl _ _⟩
  · rw [if_neg h2]
    obtain ⟨L, hL⟩ : ∃ L, L = (if Same1 t n then nth t 1 else -1) := ⟨_, rfl⟩
    rw [← hL]
    have HL := Lib.hid hL
    have HU := Lib.hid hU
    have h2'' : ¬ (n : Int) < 2 := by omega
    obtain ⟨V, hV⟩ : ∃ V, V = (if 0 ≤ L then L else 0) := ⟨_, rfl⟩
    obtain ⟨T, hT⟩ : ∃ T, T = decide (0 ≤ L) := ⟨_, rfl⟩
    rw [← hV, ← hT]
    have HV := Lib.hid hV
    have HB := Lib.hid hT
    clear hL hU hV hT
    go_enter Try.func96, Try.ntmps96
    go_wp2_with fail
    refine (HT.out).mono ?_
    rintro e w1 ⟨⟨A1, n1, c1, rfl, hl, ho⟩, hb1⟩
    obtain rfl : n = n1 := HLt.out.symm.trans hl
    have HO := Lib.hid ho
    obtain ⟨g, rfl, hg1, hg2, hc1, hf1⟩ := ho.at_ (k := 1) (by rw [HLt.out]; omega)
    have hle := HO.out.rd.le
    rw [HLt.out] at hle
    clear hl ho hg1 hf1 hg2
    have hn1' : (1 : Int) ≤ (n : Int) := by omega
    have hnc : (n : Int) ≤ (c1 : Int) := by omega
    have hnp : 0 < n - 1 := by omega
    have hnp' : (0 : Int) < ((n - 1 : Nat) : Int) := by omega
    go_wp2
    go_loopw [17] (fun i wr => ∃ k : Nat, k ≤ n - 1 ∧ i = .int .i64 k ∧ Hid (Same1 t (k + 1)) ∧ Qt w1 wr) (fun i _ => n - (intOf i).toNat)
    case atStart => exact ⟨0, by omega, rfl, fun j h1 h2 => absurd h2 (by omega), Qt.refl _⟩
    case round =>
      obtain ⟨k, hk, rfl, hP, ⟨d, rfl⟩⟩ := hrel
      by_cases hlt : k < n - 1
      · obtain ⟨g', e, hg1', hg2', hc2, hf2⟩ := HO.out.at_ (k := k + 1) (by rw [HLt.out]; omega)
        injection e with e
        injection e with e1 e2
        subst e1
        clear hf2 hg1' hg2' e2
        rw [Nat.add_comm k 1] at hc2
        have hi0 : (0 : Int) ≤ (k : Int) := by omega
        have hi1 : (k : Int) < ((n - 1 : Nat) : Int) := by omega
        by_cases he : nth t (1 + k) = nth t 1
        · have HP := Lib.hid (show Same1 t (k + 1 + 1) from fun j h1 h2 => by
            by_cases e : j = 1 + k
            · subst e; exact he
            · exact hP.out j h1 (by omega))
          have hd : (nth t (1 + k) != nth t 1) = false := by rw [he]; simp
          clear he
          go_wp2
          go_roundw
          case rel => exact ⟨k + 1, by omega, by go_num, HP.out, (by first | exact ⟨_, rfl⟩ | exact qt2 _ _ _)⟩
          case measure => simp [intOf]; omega
        · have HF := Lib.hid (show L = -1 by
            rw [HL.out, if_neg]
            exact fun h => he (h (1 + k) (by omega) (by omega)))
          have HF1 := Lib.hid (show V = 0 by rw [HV.out, HF.out]; decide)
          have HF2 := Lib.hid (show T = false by rw [HB.out, HF.out]; decide)
          have hd : (nth t (1 + k) != nth t 1) = true := by rw [bne_iff_ne]; exact he
          clear he
          go_wp2
          go_ret2
          rw [HF1.out, HF2.out]
          exact ⟨rfl, hb1.trans (by first | exact (Qt.below ⟨_, rfl⟩ _) | exact (Qt.below (qt2 _ _ _) _))⟩
      · obtain rfl : k = n - 1 := by omega
        have HF := Lib.hid (show L = nth t 1 by
          rw [HL.out, if_pos (by have := hP.out; rwa [show n - 1 + 1 = n by omega] at this)])
        have HF1 := Lib.hid (show V = nth t 1 by rw [HV.out, HF.out, if_pos HU.out])
        have HF2 := Lib.hid (show T = true by rw [HB.out, HF.out]; exact decide_eq_true HU.out)
        go_wp2
        go_ret2
        rw [HF1.out, HF2.out]
        exact ⟨rfl, hb1.trans (Qt.below ⟨_, rfl⟩ _)⟩

theorem lam_lt {n : Nat} {sets : List (List Int)} : lamI n sets < 0 ↔ ¬ 0 ≤ lamI n sets := by omega

def famV (n : Int) (sets : List (List Int)) : Int := if baseB n sets then (if 0 ≤ lamI n.toNat sets then lamI n.toNat sets else 0) else 0
def famC (n : Int) (sets : List (List Int)) : Int := if baseB n sets then (if 0 ≤ lamI n.toNat sets then 0 else 6) else 1
theorem FamilyLambda_small : True := trivial

end Go.Proofs.Ytpgmjfgjlddhgaa
