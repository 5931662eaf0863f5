/-
  TranslateSet and MultiplySet: contents, and the walks of both sides. Conditions: those of each theorem.
-/
import Derived.Test.YtpgmjfgjlddhgaaSet13b
namespace Go.Proofs.Ytpgmjfgjlddhgaa
open Go.RowKit
set_option linter.unusedVariables false
set_option linter.unusedSimpArgs false

def trL (n : Int) (xs : List Int) (b : Int) : List Int := if askC n xs b = 0 then mvL n.toNat xs 1 b else []
def muL (n : Int) (xs : List Int) (b : Int) : List Int := if askC n xs b = 0 ∧ Nat.gcd b.toNat n.toNat = 1 then mvL n.toNat xs b 0 else []
def muC (n : Int) (xs : List Int) (b : Int) : Int := if askC n xs b = 0 then (if Nat.gcd b.toNat n.toNat = 1 then 0 else 6) else askC n xs b
theorem askC_zero {n : Int} {xs : List Int} {b : Int} (h : askC n xs b = 0) : Set13 n xs ∧ 0 ≤ b ∧ b ≤ n - 1 := by
  unfold askC at h
  split at h
  · omega
  · next h1 =>
    split at h
    · omega
    · next h2 =>
      have h3 : set13 n xs = true := by simpa using h1
      have h4 : inB b 0 (n - 1) = true := by simpa using h2
      exact ⟨of_decide_eq_true h3, inB_true.1 h4⟩
theorem set13_len {n : Int} {xs : List Int} (h : Set13 n xs) : xs.length ≤ 32 := by
  have h1 := rise_len h.2 (by have := h.1; omega)
  have := h.1
  omega
theorem TranslateSet_small (n : Int) (xs : List Int) (b : Int) : (trL n xs b).length ≤ 1048576 := by
  unfold trL
  split
  · next h => have := mvL_len n.toNat xs 1 b; have := set13_len (askC_zero h).1; omega
  · simp
theorem MultiplySet_small (n : Int) (xs : List Int) (b : Int) : (muL n xs b).length ≤ 1048576 := by
  unfold muL
  split
  · next h => have := mvL_len n.toNat xs b 0; have := set13_len (askC_zero h.1).1; omega
  · simp

set_option maxHeartbeats 1000000 in
theorem specTranslateSet_c (w : World) (n : Int) (hn64 : -9223372036854775808 ≤ n ∧ n ≤ 9223372036854775807) (A : Option Addr) (m c : Nat) (xs : List Int) (hr : RdI w A c xs) (hm : xs.length = m) (hw : WfL xs) (hz : (m : Int) ≤ 1048576) (b : Int) (hb64 : -9223372036854775808 ≤ b ∧ b ≤ 9223372036854775807) :
    Calls Try.prog 28 #[.int .i64 n, .slice A m c, .int .i64 b] w (PostSC w (trL n xs b) (askC n xs b)) := by
  have hA := l13Ask_c w n A m c xs hr hm b
  by_cases h0 : askC n xs b = 0
  · obtain ⟨hok, hb0, hb1⟩ := askC_zero h0
    have hn1 := hok.1
    obtain ⟨N, rfl⟩ : ∃ N : Nat, n = (N : Int) := ⟨n.toNat, by omega⟩
    obtain ⟨B, rfl⟩ : ∃ B : Nat, b = (B : Int) := ⟨b.toNat, by omega⟩
    rw [show trL (N : Int) xs (B : Int) = mvL N xs 1 (B : Int) by unfold trL; rw [if_pos h0]; rfl]
    rw [h0] at hA ⊢
    have HA := Lib.hid hA
    have HM := Lib.hid (fun (q : Nat) => l13Move_c (w.drewN q) N A m c xs (hr.drewN q) hm hok 1 B (by omega) (by omega))
    rw [show ((1 : Nat) : Int) = 1 from rfl] at HM
    generalize mvL N xs 1 (B : Int) = T at *
    clear hA h0 hok hr hm
    go_enter Try.func28, Try.ntmps28
    go_wp2_with fail
    refine (HA.out).mono ?_
    rintro e w1 ⟨rfl, q, rfl⟩
    go_wp2_with fail
    refine (HM.out q).mono ?_
    rintro e w2 ⟨⟨A1, n1, c1, rfl, hn1', ho1⟩, hb2⟩
    have HO1 := Lib.hid ho1
    have HB1 := Lib.hid ((below_drewN (Below.refl w.heap.size w) q).trans hb2)
    have HN1 := Lib.hid hn1'
    clear ho1 hb2 hn1'
    go_wp2
    go_ret2
    exact ⟨⟨A1, n1, c1, rfl, HN1.out, HO1.out⟩, HB1.out⟩
  · rw [show trL n xs b = [] by unfold trL; rw [if_neg h0]]
    have hd : (askC n xs b != 0) = true := by rw [bne_iff_ne]; exact h0
    have hab : 0 ≤ askC n xs b ∧ askC n xs b ≤ 2 := by unfold askC; split <;> (try split) <;> omega
    generalize askC n xs b = K at *
    have HA := Lib.hid hA
    clear hA hr hm
    go_enter Try.func28, Try.ntmps28
    go_wp2_with fail
    refine (HA.out).mono ?_
    rintro e w1 ⟨rfl, q, rfl⟩
    go_wp2
    go_ret2
    exact ⟨⟨none, 0, 0, rfl, rfl, OwnI.nil_ _ _⟩, below_drewN (Below.refl _ _) q⟩

set_option maxHeartbeats 1000000 in
theorem specMultiplySet_c (w : World) (n : Int) (hn64 : -9223372036854775808 ≤ n ∧ n ≤ 9223372036854775807) (A : Option Addr) (m c : Nat) (xs : List Int) (hr : RdI w A c xs) (hm : xs.length = m) (hw : WfL xs) (hz : (m : Int) ≤ 1048576) (b : Int) (hb64 : -9223372036854775808 ≤ b ∧ b ≤ 9223372036854775807) :
    Calls Try.prog 34 #[.int .i64 n, .slice A m c, .int .i64 b] w (PostSC w (muL n xs b) (muC n xs b)) := by
  have hA := l13Ask_c w n A m c xs hr hm b
  by_cases h0 : askC n xs b = 0
  · obtain ⟨hok, hb0, hb1⟩ := askC_zero h0
    have hn1 := hok.1
    obtain ⟨N, rfl⟩ : ∃ N : Nat, n = (N : Int) := ⟨n.toNat, by omega⟩
    obtain ⟨B, rfl⟩ : ∃ B : Nat, b = (B : Int) := ⟨b.toNat, by omega⟩
    have HG := Lib.hid (fun (q : Nat) => l02Gcd_c (w.drewN q) B N (by omega) (by omega))
    have hgp : 0 < Nat.gcd B N := Nat.gcd_pos_of_pos_right _ (by omega)
    by_cases hg : Nat.gcd B N = 1
    · rw [show muL (N : Int) xs (B : Int) = mvL N xs (B : Int) 0 by unfold muL; rw [if_pos ⟨h0, hg⟩]; rfl, show muC (N : Int) xs (B : Int) = 0 by unfold muC; rw [if_pos h0]; exact if_pos hg]
      rw [h0] at hA
      rw [hg] at HG
      have HA := Lib.hid hA
      have HM := Lib.hid (fun (q : Nat) => l13Move_c (w.drewN q) N A m c xs (hr.drewN q) hm hok B 0 (by omega) (by omega))
      rw [show ((0 : Nat) : Int) = 0 from rfl] at HM
      generalize mvL N xs (B : Int) 0 = T at *
      clear hA h0 hok hr hm hg hgp
      go_enter Try.func34, Try.ntmps34
      go_wp2_with fail
      refine (HA.out).mono ?_
      rintro e w1 ⟨rfl, q, rfl⟩
      go_wp2_with fail
      refine (HG.out q).mono ?_
      rintro e w' ⟨rfl, rfl⟩
      go_wp2_with fail
      refine (HM.out q).mono ?_
      rintro e w2 ⟨⟨A1, n1, c1, rfl, hn1', ho1⟩, hb2⟩
      have HO1 := Lib.hid ho1
      have HB1 := Lib.hid ((below_drewN (Below.refl w.heap.size w) q).trans hb2)
      have HN1 := Lib.hid hn1'
      clear ho1 hb2 hn1'
      go_wp2
      go_ret2
      exact ⟨⟨A1, n1, c1, rfl, HN1.out, HO1.out⟩, HB1.out⟩
    · rw [show muL (N : Int) xs (B : Int) = [] by unfold muL; rw [if_neg (fun h => hg h.2)], show muC (N : Int) xs (B : Int) = 6 by unfold muC; rw [if_pos h0]; exact if_neg hg]
      rw [h0] at hA
      have HA := Lib.hid hA
      generalize Nat.gcd B N = G at *
      have hd : ((G : Int) != 1) = true := by rw [bne_iff_ne]; omega
      clear hA h0 hok hr hm hg hgp
      go_enter Try.func34, Try.ntmps34
      go_wp2_with fail
      refine (HA.out).mono ?_
      rintro e w1 ⟨rfl, q, rfl⟩
      go_wp2_with fail
      refine (HG.out q).mono ?_
      rintro e w' ⟨rfl, rfl⟩
      go_wp2
      go_ret2
      exact ⟨⟨none, 0, 0, rfl, rfl, OwnI.nil_ _ _⟩, below_drewN (Below.refl _ _) q⟩
  · rw [show muL n xs b = [] by unfold muL; rw [if_neg (fun h => h0 h.1)], show muC n xs b = askC n xs b by unfold muC; rw [if_neg h0]]
    have hd : (askC n xs b != 0) = true := by rw [bne_iff_ne]; exact h0
    have hab : 0 ≤ askC n xs b ∧ askC n xs b ≤ 2 := by unfold askC; split <;> (try split) <;> omega
    generalize askC n xs b = K at *
    have HA := Lib.hid hA
    clear hA hr hm
    go_enter Try.func34, Try.ntmps34
    go_wp2_with fail
    refine (HA.out).mono ?_
    rintro e w1 ⟨rfl, q, rfl⟩
    go_wp2
    go_ret2
    exact ⟨⟨none, 0, 0, rfl, rfl, OwnI.nil_ _ _⟩, below_drewN (Below.refl _ _) q⟩

set_option maxHeartbeats 1000000 in
theorem implTranslateSet_c (w : World) (n : Int) (hn64 : -9223372036854775808 ≤ n ∧ n ≤ 9223372036854775807) (A : Option Addr) (m c : Nat) (xs : List Int) (hr : RdI w A c xs) (hm : xs.length = m) (hw : WfL xs) (hz : (m : Int) ≤ 1048576) (b : Int) (hb64 : -9223372036854775808 ≤ b ∧ b ≤ 9223372036854775807) :
    Calls Try.prog 30 #[.int .i64 n, .slice A m c, .int .i64 b] w (PostSC w (trL n xs b) (askC n xs b)) := by
  have hS := isResidueSet_c w A m c xs n hr hm
  have hI := within_c b 0 (n - 1) w
  rcases hs : set13 n xs with _ | _
  · rw [hs] at hS
    rw [show askC n xs b = 1 by simp [askC, hs], show trL n xs b = [] by simp [trL, askC, hs]]
    have HS := Lib.hid hS
    clear hS hs hr hm hI
    go_enter Try.func30, Try.ntmps30
    go_wp2_with fail
    refine (HS.out).mono ?_
    rintro e w' ⟨rfl, rfl⟩
    go_wp2
    go_ret2
    exact ⟨⟨none, 0, 0, rfl, rfl, OwnI.nil_ _ _⟩, Below.refl _ _⟩
  rw [hs] at hS
  have HS := Lib.hid hS
  have hok : Set13 n xs := of_decide_eq_true hs
  have hn1 := hok.1
  rcases hi : inB b 0 (n - 1) with _ | _
  · rw [hi] at hI
    rw [show askC n xs b = 2 by simp [askC, hs, hi], show trL n xs b = [] by simp [trL, askC, hs, hi]]
    have HI := Lib.hid hI
    clear hS hs hr hm hI hi hok
    go_enter Try.func30, Try.ntmps30
    go_wp2_with fail
    refine (HS.out).mono ?_
    rintro e w' ⟨rfl, rfl⟩
    go_wp2_with fail
    refine (HI.out).mono ?_
    rintro e w' ⟨rfl, rfl⟩
    go_wp2
    go_ret2
    exact ⟨⟨none, 0, 0, rfl, rfl, OwnI.nil_ _ _⟩, Below.refl _ _⟩
  · rw [hi] at hI
    have h0 : askC n xs b = 0 := by simp [askC, hs, hi]
    have hbi := inB_true.1 hi
    obtain ⟨N, rfl⟩ : ∃ N : Nat, n = (N : Int) := ⟨n.toNat, by omega⟩
    obtain ⟨B, rfl⟩ : ∃ B : Nat, b = (B : Int) := ⟨b.toNat, by omega⟩
    rw [h0, show trL (N : Int) xs (B : Int) = mvL N xs 1 (B : Int) by unfold trL; rw [if_pos h0]; rfl]
    have HI := Lib.hid hI
    have HM := Lib.hid (translate_c w N A m c xs hr hm hok B (by omega))
    generalize mvL N xs 1 (B : Int) = T at *
    clear hS hs hr hm hI hi hok h0
    go_enter Try.func30, Try.ntmps30
    go_wp2_with fail
    refine (HS.out).mono ?_
    rintro e w' ⟨rfl, rfl⟩
    go_wp2_with fail
    refine (HI.out).mono ?_
    rintro e w' ⟨rfl, rfl⟩
    go_wp2_with fail
    refine (HM.out).mono ?_
    rintro e w2 ⟨⟨A1, n1, c1, rfl, hn1', ho1⟩, hb2⟩
    have HO1 := Lib.hid ho1
    have HN1 := Lib.hid hn1'
    clear ho1 hn1'
    go_wp2
    go_ret2
    exact ⟨⟨A1, n1, c1, rfl, HN1.out, HO1.out⟩, hb2⟩

set_option maxHeartbeats 1000000 in
theorem implMultiplySet_c (w : World) (n : Int) (hn64 : -9223372036854775808 ≤ n ∧ n ≤ 9223372036854775807) (A : Option Addr) (m c : Nat) (xs : List Int) (hr : RdI w A c xs) (hm : xs.length = m) (hw : WfL xs) (hz : (m : Int) ≤ 1048576) (b : Int) (hb64 : -9223372036854775808 ≤ b ∧ b ≤ 9223372036854775807) :
    Calls Try.prog 35 #[.int .i64 n, .slice A m c, .int .i64 b] w (PostSC w (muL n xs b) (muC n xs b)) := by
  have hS := isResidueSet_c w A m c xs n hr hm
  have hI := within_c b 0 (n - 1) w
  rcases hs : set13 n xs with _ | _
  · rw [hs] at hS
    rw [show muC n xs b = 1 by simp [muC, askC, hs], show muL n xs b = [] by simp [muL, askC, hs]]
    have HS := Lib.hid hS
    clear hS hs hr hm hI
    go_enter Try.func35, Try.ntmps35
    go_wp2_with fail
    refine (HS.out).mono ?_
    rintro e w' ⟨rfl, rfl⟩
    go_wp2
    go_ret2
    exact ⟨⟨none, 0, 0, rfl, rfl, OwnI.nil_ _ _⟩, Below.refl _ _⟩
  rw [hs] at hS
  have HS := Lib.hid hS
  have hok : Set13 n xs := of_decide_eq_true hs
  have hn1 := hok.1
  rcases hi : inB b 0 (n - 1) with _ | _
  · rw [hi] at hI
    rw [show muC n xs b = 2 by simp [muC, askC, hs, hi], show muL n xs b = [] by simp [muL, askC, hs, hi]]
    have HI := Lib.hid hI
    clear hS hs hr hm hI hi hok
    go_enter Try.func35, Try.ntmps35
    go_wp2_with fail
    refine (HS.out).mono ?_
    rintro e w' ⟨rfl, rfl⟩
    go_wp2_with fail
    refine (HI.out).mono ?_
    rintro e w' ⟨rfl, rfl⟩
    go_wp2
    go_ret2
    exact ⟨⟨none, 0, 0, rfl, rfl, OwnI.nil_ _ _⟩, Below.refl _ _⟩
  · rw [hi] at hI
    have h0 : askC n xs b = 0 := by simp [askC, hs, hi]
    have hbi := inB_true.1 hi
    obtain ⟨N, rfl⟩ : ∃ N : Nat, n = (N : Int) := ⟨n.toNat, by omega⟩
    obtain ⟨B, rfl⟩ : ∃ B : Nat, b = (B : Int) := ⟨b.toNat, by omega⟩
    have HI := Lib.hid hI
    have HG := Lib.hid (gcd_c w B N (by omega) (by omega))
    have hgp : 0 < Nat.gcd B N := Nat.gcd_pos_of_pos_right _ (by omega)
    by_cases hg : Nat.gcd B N = 1
    · rw [show muL (N : Int) xs (B : Int) = mvL N xs (B : Int) 0 by unfold muL; rw [if_pos ⟨h0, hg⟩]; rfl, show muC (N : Int) xs (B : Int) = 0 by unfold muC; rw [if_pos h0]; exact if_pos hg]
      have HM := Lib.hid (fun (q : Nat) => multiply_c (w.drewN q) N A m c xs (hr.drewN q) hm hok B (by omega) hg)
      rw [hg] at HG
      generalize mvL N xs (B : Int) 0 = T at *
      clear hS hs hr hm hI hi hok h0 hg hgp
      go_enter Try.func35, Try.ntmps35
      go_wp2_with fail
      refine (HS.out).mono ?_
      rintro e w' ⟨rfl, rfl⟩
      go_wp2_with fail
      refine (HI.out).mono ?_
      rintro e w' ⟨rfl, rfl⟩
      go_wp2_with fail
      refine (HG.out).mono ?_
      rintro e w1 ⟨rfl, q, rfl⟩
      go_wp2_with fail
      refine (HM.out q).mono ?_
      rintro e w2 ⟨⟨A1, n1, c1, rfl, hn1', ho1⟩, hb2⟩
      have HO1 := Lib.hid ho1
      have HN1 := Lib.hid hn1'
      have HB1 := Lib.hid ((below_drewN (Below.refl w.heap.size w) q).trans hb2)
      clear ho1 hn1' hb2
      go_wp2
      go_ret2
      exact ⟨⟨A1, n1, c1, rfl, HN1.out, HO1.out⟩, HB1.out⟩
    · rw [show muL (N : Int) xs (B : Int) = [] by unfold muL; rw [if_neg (fun h => hg h.2)], show muC (N : Int) xs (B : Int) = 6 by unfold muC; rw [if_pos h0]; exact if_neg hg]
      generalize Nat.gcd B N = G at *
      have hd : decide (1 < (G : Int)) = true := by simp; omega
      have hd2 : 1 < G := by omega
      clear hS hs hr hm hI hi hok h0 hg hgp
      go_enter Try.func35, Try.ntmps35
      go_wp2_with fail
      refine (HS.out).mono ?_
      rintro e w' ⟨rfl, rfl⟩
      go_wp2_with fail
      refine (HI.out).mono ?_
      rintro e w' ⟨rfl, rfl⟩
      go_wp2_with fail
      refine (HG.out).mono ?_
      rintro e w1 ⟨rfl, q, rfl⟩
      go_wp2
      go_ret2
      exact ⟨⟨none, 0, 0, rfl, rfl, OwnI.nil_ _ _⟩, below_drewN (Below.refl _ _) q⟩
end Go.Proofs.Ytpgmjfgjlddhgaa
