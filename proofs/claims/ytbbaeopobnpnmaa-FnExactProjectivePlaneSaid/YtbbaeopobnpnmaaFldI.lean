/-
  Irreducible polynomials: isZero and irreducible of the program, l03Irreducible of the reference. Conditions: those of each theorem.
-/
import Derived.Test.YtbbaeopobnpnmaaFldR
namespace Go.Proofs.Ytbbaeopobnpnmaa
open Go.RowKit
set_option linter.unusedVariables false
set_option linter.unusedSimpArgs false

theorem isZero1_c (x : Int) (w : World) : Calls Try.prog 77 #[.int .i64 x] w (PostV w (.bool (decide (x ≠ 0)))) := by
  by_cases h1 : x = 0
  · have h1' : (x != 0) = false := by simp [h1]
    rw [decide_eq_false (fun h => h h1)]
    clear h1
    go_enter Try.func77, Try.ntmps77
    go_wp2
    go_ret
    exact ⟨rfl, Below.refl _ _⟩
  · have h1' : (x != 0) = true := by simp [h1]
    rw [decide_eq_true h1]
    clear h1
    go_enter Try.func77, Try.ntmps77
    go_wp2
    go_ret
    exact ⟨rfl, Below.refl _ _⟩
set_option maxHeartbeats 1000000 in
theorem isZero_c (w : World) (A : Option Addr) (n c : Nat) (xs : List Int) (p : Nat) (hr : RdI w A c xs) (hn : xs.length = n) (hp : 2 ≤ p) (hI : InP p xs) :
    Calls Try.prog 64 #[.slice A n c] w (PostV w (.bool (decide (num p xs = 0)))) := by
  have eg := enters_of Try.func77 (by kernel_rfl) rfl
  have hc := containsFuncI w A n c xs 77 #[] (fun k => decide (nth xs k ≠ 0)) eg hr hn (fun W k _ _ => isZero1_c _ W)
  have he : decide (num p xs = 0) = !anyTo (fun k => decide (nth xs k ≠ 0)) n := by
    rcases ha : anyTo (fun k => decide (nth xs k ≠ 0)) n with _ | _
    · refine decide_eq_true ((num_zero (by omega) hI).2 fun k hk => ?_)
      have := anyTo_false.1 ha k (by omega)
      simpa using this
    · obtain ⟨k, hk, hq⟩ := anyTo_true.1 ha
      refine decide_eq_false fun h => ?_
      have := (num_zero (by omega) hI).1 h k (by omega)
      simp [this] at hq
  rw [he]
  have HC := Lib.hid hc
  generalize anyTo (fun k => decide (nth xs k ≠ 0)) n = q at *
  clear hc he hr hn hI eg
  go_enter Try.func64, Try.ntmps64
  go_wp2_with fail
  refine (HC.out).mono ?_
  rintro e w1 ⟨rfl, hb⟩
  go_wp2
  go_ret
  exact ⟨rfl, hb⟩

theorem ret_bT {a b : Bool} (h : a = b) : (Ending.returned (.bool a) : Ending) = .returned (.bool b) := by rw [h]

set_option maxHeartbeats 8000000 in
set_option maxRecDepth 10000 in
theorem irreducible_c (w : World) (A : Option Addr) (n c : Nat) (xs : List Int) (p k : Nat) (hr : RdI w A c xs) (hn : xs.length = n) (hF : FldOk p k) (hI : InP p xs) (hk1 : n ≤ k + 1) (hk2 : k + 1 ≤ n) :
    Calls Try.prog 41 #[.slice A n c, .int .i64 (p : Int)] w (PostV w (.bool (irrB p k xs))) := by
  obtain ⟨hp, hp2, hq1, hq6, hF5⟩ := hF
  have HP := Lib.hid (show ∀ d, d ≤ k → p ^ d ≤ 64 from fun d hd => Nat.le_trans (Nat.pow_le_pow_right (by omega) hd) hF5)
  have HR := Lib.hid hr
  have HN := Lib.hid hn
  have HI := Lib.hid hI
  obtain ⟨T, hT⟩ : ∃ T, T = irrB p k xs := ⟨_, rfl⟩
  rw [← hT]
  have HT := Lib.hid hT
  clear hT hr hn hF5 hI
  have hw1 : IntKind.i64.wrap ((n : Int) - 1) = (k : Int) := by rw [show (n : Int) - 1 = (k : Int) by omega]; exact IntWalk.i64_in _ (by omega)
  go_enter Try.func41, Try.ntmps41
  go_wp2_with fail; refine (sizeI_c _ _ _ _).mono ?_; rintro e w' ⟨rfl, rfl⟩
  go_wp2
  go_loopw [6] (fun v wr => ∃ d : Nat, 1 ≤ d ∧ d ≤ 4 ∧ v = .int .i64 d ∧ Hid (∀ e, 1 ≤ e → e < d → 2 * e ≤ k → ∀ j, j < p ^ e → divB p k xs e j = false) ∧ Hid (Below w.heap.size w wr)) (fun v _ => 5 - (intOf v).toNat)
  case atStart => exact ⟨1, Nat.le_refl _, by omega, rfl, Lib.hid (fun e h1 h2 => absurd h2 (by omega)), Lib.hid (Below.refl _ _)⟩
  case round =>
    obtain ⟨d, hd1, hd4, rfl, HD, HB⟩ := hrel
    have hw2 : IntKind.i64.wrap (2 * (d : Int)) = 2 * (d : Int) := IntWalk.i64_in _ (by omega)
    by_cases hdk : 2 * d ≤ k
    · have hdk2 : 2 * (d : Int) ≤ (k : Int) := by omega
      obtain ⟨P, hP⟩ : ∃ P, P = p ^ d := ⟨_, rfl⟩
      have hP64 : P ≤ 64 := by rw [hP]; exact HP.out d (by omega)
      have HPd := Lib.hid hP
      clear hP
      obtain ⟨wo, rfl⟩ : ∃ wo, wo = wr := ⟨_, rfl⟩
      go_wp2
      go_loopw [7] (fun v wr => ∃ j : Nat, j ≤ P ∧ v = .int .i64 j ∧ Hid (∀ i, i < j → divB p k xs d i = false) ∧ Hid (Below w.heap.size w wr)) (fun v _ => P - (intOf v).toNat)
      case atStart => exact ⟨0, Nat.zero_le _, rfl, Lib.hid (fun i h => absurd h (by omega)), HB⟩
      case round =>
        obtain ⟨j, hj, rfl, HJ, HB2⟩ := hrel
        have hsz2 := HB2.out.size
        have HPw := Lib.hid (powerUpTo_c wr p d hp hp2 (by rw [← HPd.out]; exact hP64))
        rw [← HPd.out] at HPw
        by_cases hjP : j < P
        · have hjP2 : (j : Int) < (P : Int) := by omega
          have HDi := Lib.hid (digitsOf_c wr j p d (by omega) hp hp2 (by omega))
          have HLd := Lib.hid (digL_len p j d)
          have HId := Lib.hid ((InP.dig (p := p) (by omega) j d).snoc (y := 1) (by omega))
          have HBr := Lib.hid (Below.refl wr.heap.size wr)
          go_wp2_with fail
          refine (HPw.out).mono ?_
          rintro e w' ⟨rfl, rfl⟩
          go_wp2_with fail
          refine (HDi.out).mono ?_
          rintro e w2 ⟨⟨A2, n2, c2, rfl, hn2, ho2⟩, hb2⟩
          obtain rfl : d = n2 := HLd.out.symm.trans hn2
          have HO2 := Lib.hid ho2
          have HBb2 := Lib.hid hb2
          have hszb := hb2.size
          clear hn2 ho2 hb2
          go_wp2_with (at_builtin; refine wpI_append rfl _ _ rfl wr.heap.size _ _ _ (digL p j d) (1) w2.heap.size rfl rfl HLd.out (HO2.out.alloc (.cells #[.int .i64 (1)] 2)) (World.cell?_alloc_at _ _ _ _ rfl) (by omega) (by simp; omega) ?_; intro A3 c3 w3 ho3 hg3 ha3)
          have hB3 : Below wr.heap.size wr w3 := (HBb2.out.alloc HBb2.out.size (.cells #[.int .i64 (1)] 2)).trans (below_blk (HO2.out.alloc (.cells #[.int .i64 (1)] 2)) hg3 (Nat.le_refl _) (by simp; omega))
          have HO3 := Lib.hid ho3
          have HB3 := Lib.hid hB3
          clear ho3 hg3 ha3 hB3
          have HRr := Lib.hid (HR.out.below (HB2.out.trans (HB3.out.mono hsz2)))
          have HLy := Lib.hid (show (digL p j d ++ [(1 : Int)]).length = d + 1 by rw [List.length_append, HLd.out]; rfl)
          have HRm := Lib.hid (remainder_c w3 A A3 n (d + 1) c c3 xs (digL p j d ++ [1]) p d HRr.out HN.out HO3.out.rd HLy.out hp hp2 HI.out HId.out (by omega) hd1 (by omega) (by omega) (by omega))
          have HIr := Lib.hid (rem_in (p := p) (by omega) (by_ := digL p j d ++ [1]) (d := d) HI.out)
          rcases hdv : divB p k xs d j with _ | _
          · have HJ2 := Lib.hid (show ∀ i, i < j + 1 → divB p k xs d i = false from fun i hi => by
              by_cases e2 : i = j
              · subst e2; exact hdv
              · exact HJ.out i (by omega))
            have HZ := Lib.hid (fun W A4 n4 c4 (hr4 : RdI W A4 c4 (rem p (digL p j d ++ [1]) d xs)) hn4 => isZero_c W A4 n4 c4 _ p hr4 hn4 hp HIr.out)
            unfold divB at hdv
            simp only [hdv] at HZ
            clear hdv
            go_wp2_with fail
            refine (HRm.out).mono ?_
            rintro e w4 ⟨⟨A4, n4, c4, rfl, hn4, hr4⟩, hb4⟩
            have HZ4 := Lib.hid (HZ.out w4 A4 n4 c4 hr4 hn4)
            have HB4 := Lib.hid (HB3.out.trans (hb4.mono HB3.out.size))
            clear hr4 hn4 hb4
            go_wp2_with fail
            refine (HZ4.out).mono ?_
            rintro e w5 ⟨rfl, hb5⟩
            have HB5 := Lib.hid (HB2.out.trans ((HB4.out.trans (hb5.mono HB4.out.size)).mono hsz2))
            clear hb5
            go_wp2
            go_roundw
            case rel => exact ⟨j + 1, by omega, by go_num, HJ2, HB5⟩
            case measure => simp [intOf] <;> omega
          · have HF := Lib.hid (show T = false by
              rw [HT.out, Bool.eq_false_iff]
              intro h
              have := irrB_true.1 h d hd1 hdk j (by rw [← HPd.out]; exact hjP)
              rw [hdv] at this; cases this)
            have HZ := Lib.hid (fun W A4 n4 c4 (hr4 : RdI W A4 c4 (rem p (digL p j d ++ [1]) d xs)) hn4 => isZero_c W A4 n4 c4 _ p hr4 hn4 hp HIr.out)
            unfold divB at hdv
            simp only [hdv] at HZ
            clear hdv
            go_wp2_with fail
            refine (HRm.out).mono ?_
            rintro e w4 ⟨⟨A4, n4, c4, rfl, hn4, hr4⟩, hb4⟩
            have HZ4 := Lib.hid (HZ.out w4 A4 n4 c4 hr4 hn4)
            have HB4 := Lib.hid (HB3.out.trans (hb4.mono HB3.out.size))
            clear hr4 hn4 hb4
            go_wp2_with fail
            refine (HZ4.out).mono ?_
            rintro e w5 ⟨rfl, hb5⟩
            have HB5 := Lib.hid (HB2.out.trans ((HB4.out.trans (hb5.mono HB4.out.size)).mono hsz2))
            clear hb5
            go_wp2
            go_ret
            exact ⟨by rw [HF.out]; rfl, HB5.out⟩
        · obtain rfl : j = P := by omega
          have HD2 := Lib.hid (show ∀ e, 1 ≤ e → e < d + 1 → 2 * e ≤ k → ∀ j, j < p ^ e → divB p k xs e j = false from fun e h1 h2 h3 i hi => by
            by_cases e2 : e = d
            · subst e2; exact HJ.out i (by rw [HPd.out]; exact hi)
            · exact HD.out e h1 (by omega) h3 i hi)
          go_wp2_with fail
          refine (HPw.out).mono ?_
          rintro e w' ⟨rfl, rfl⟩
          go_wp2
          go_roundw
          case rel => exact ⟨d + 1, by omega, by omega, by go_num, HD2, HB2⟩
          case measure => simp [intOf] <;> omega
    · have hdk2 : ¬ 2 * (d : Int) ≤ (k : Int) := by omega
      have HF := Lib.hid (show T = true by
        rw [HT.out]
        exact irrB_true.2 fun e h1 h2 j hj => HD.out e h1 (by omega) h2 j hj)
      go_wp2
      go_ret
      exact ⟨by rw [HF.out]; rfl, HB.out⟩

set_option maxHeartbeats 8000000 in
set_option maxRecDepth 10000 in
theorem l03Irreducible_c (w : World) (A : Option Addr) (n c : Nat) (xs : List Int) (p k : Nat) (hr : RdI w A c xs) (hn : xs.length = n) (hF : FldOk p k) (hI : InP p xs) (hk1 : n ≤ k + 1) (hk2 : k + 1 ≤ n) :
    Calls Try.prog 57 #[.slice A n c, .int .i64 (p : Int)] w (PostV w (.bool (irrB p k xs))) := by
  obtain ⟨hp, hp2, hq1, hq6, hF5⟩ := hF
  have HP := Lib.hid (show ∀ d, d ≤ k → p ^ d ≤ 64 from fun d hd => Nat.le_trans (Nat.pow_le_pow_right (by omega) hd) hF5)
  have HR := Lib.hid hr
  have HN := Lib.hid hn
  have HI := Lib.hid hI
  obtain ⟨T, hT⟩ : ∃ T, T = irrB p k xs := ⟨_, rfl⟩
  rw [← hT]
  have HT := Lib.hid hT
  clear hT hr hn hF5 hI
  have hw1 : IntKind.i64.wrap ((n : Int) - 1) = (k : Int) := by rw [show (n : Int) - 1 = (k : Int) by omega]; exact IntWalk.i64_in _ (by omega)
  go_enter Try.func57, Try.ntmps57
  skip
  go_wp2
  go_loopw [6] (fun v wr => ∃ d : Nat, 1 ≤ d ∧ d ≤ 4 ∧ v = .int .i64 d ∧ Hid (∀ e, 1 ≤ e → e < d → 2 * e ≤ k → ∀ j, j < p ^ e → divB p k xs e j = false) ∧ Hid (Below w.heap.size w wr)) (fun v _ => 5 - (intOf v).toNat)
  case atStart => exact ⟨1, Nat.le_refl _, by omega, rfl, Lib.hid (fun e h1 h2 => absurd h2 (by omega)), Lib.hid (Below.refl _ _)⟩
  case round =>
    obtain ⟨d, hd1, hd4, rfl, HD, HB⟩ := hrel
    have hw2 : IntKind.i64.wrap (2 * (d : Int)) = 2 * (d : Int) := IntWalk.i64_in _ (by omega)
    by_cases hdk : 2 * d ≤ k
    · have hdk2 : 2 * (d : Int) ≤ (k : Int) := by omega
      obtain ⟨P, hP⟩ : ∃ P, P = p ^ d := ⟨_, rfl⟩
      have hP64 : P ≤ 64 := by rw [hP]; exact HP.out d (by omega)
      have HPd := Lib.hid hP
      clear hP
      obtain ⟨wo, rfl⟩ : ∃ wo, wo = wr := ⟨_, rfl⟩
      go_wp2
      go_loopw [7] (fun v wr => ∃ j : Nat, j ≤ P ∧ v = .int .i64 j ∧ Hid (∀ i, i < j → divB p k xs d i = false) ∧ Hid (Below w.heap.size w wr)) (fun v _ => P - (intOf v).toNat)
      case atStart => exact ⟨0, Nat.zero_le _, rfl, Lib.hid (fun i h => absurd h (by omega)), HB⟩
      case round =>
        obtain ⟨j, hj, rfl, HJ, HB2⟩ := hrel
        have hsz2 := HB2.out.size
        have HPw := Lib.hid (l03Power_c wr p d hp hp2 (by rw [← HPd.out]; exact hP64))
        rw [← HPd.out] at HPw
        by_cases hjP : j < P
        · have hjP2 : (j : Int) < (P : Int) := by omega
          have HDi := Lib.hid (l03Digits_c wr j p d (by omega) hp hp2 (by omega))
          have HLd := Lib.hid (digL_len p j d)
          have HId := Lib.hid ((InP.dig (p := p) (by omega) j d).snoc (y := 1) (by omega))
          have HBr := Lib.hid (Below.refl wr.heap.size wr)
          go_wp2_with fail
          refine (HPw.out).mono ?_
          rintro e w' ⟨rfl, rfl⟩
          go_wp2_with fail
          refine (HDi.out).mono ?_
          rintro e w2 ⟨⟨A2, n2, c2, rfl, hn2, ho2⟩, hb2⟩
          obtain rfl : d = n2 := HLd.out.symm.trans hn2
          have HO2 := Lib.hid ho2
          have HBb2 := Lib.hid hb2
          have hszb := hb2.size
          clear hn2 ho2 hb2
          go_wp2_with (at_builtin; refine wpI_append rfl _ _ rfl wr.heap.size _ _ _ (digL p j d) (1) w2.heap.size rfl rfl HLd.out (HO2.out.alloc (.cells #[.int .i64 (1)] 2)) (World.cell?_alloc_at _ _ _ _ rfl) (by omega) (by simp; omega) ?_; intro A3 c3 w3 ho3 hg3 ha3)
          have hB3 : Below wr.heap.size wr w3 := (HBb2.out.alloc HBb2.out.size (.cells #[.int .i64 (1)] 2)).trans (below_blk (HO2.out.alloc (.cells #[.int .i64 (1)] 2)) hg3 (Nat.le_refl _) (by simp; omega))
          have HO3 := Lib.hid ho3
          have HB3 := Lib.hid hB3
          clear ho3 hg3 ha3 hB3
          have HRr := Lib.hid (HR.out.below (HB2.out.trans (HB3.out.mono hsz2)))
          have HLy := Lib.hid (show (digL p j d ++ [(1 : Int)]).length = d + 1 by rw [List.length_append, HLd.out]; rfl)
          have HRm := Lib.hid (l03Rest_c w3 A A3 n (d + 1) c c3 xs (digL p j d ++ [1]) p d HRr.out HN.out HO3.out.rd HLy.out hp hp2 HI.out HId.out (by omega) hd1 (by omega) (by omega) (by omega))
          have HIr := Lib.hid (rem_in (p := p) (by omega) (by_ := digL p j d ++ [1]) (d := d) HI.out)
          have HLr := Lib.hid (show (rem p (digL p j d ++ [1]) d xs).length = d by rw [rem_len, HN.out]; omega)
          have HZ := Lib.hid (fun W A4 c4 (hr4 : RdI W A4 c4 (rem p (digL p j d ++ [1]) d xs)) => l03Number_c W A4 d c4 _ p hr4 HLr.out hp hp2 HIr.out (HP.out d (by omega)) (by omega))
          go_wp2_with fail
          refine (HRm.out).mono ?_
          rintro e w4 ⟨⟨A4, n4, c4, rfl, hn4, hr4⟩, hb4⟩
          obtain rfl : d = n4 := HLr.out.symm.trans hn4
          have HZ4 := Lib.hid (HZ.out w4 A4 c4 hr4)
          have HB4 := Lib.hid (HB2.out.trans ((HB3.out.trans (hb4.mono HB3.out.size)).mono hsz2))
          clear hr4 hn4 hb4
          rcases hdv : divB p k xs d j with _ | _
          · have HJ2 := Lib.hid (show ∀ i, i < j + 1 → divB p k xs d i = false from fun i hi => by
              by_cases e2 : i = j
              · subst e2; exact hdv
              · exact HJ.out i (by omega))
            unfold divB at hdv
            have hdv := of_decide_eq_false hdv
            generalize num p (rem p (digL p j d ++ [1]) d xs) = N at *
            have hNz : (N == 0) = false := by simp; exact hdv
            go_wp2_with fail
            refine (HZ4.out).mono ?_
            rintro e w' ⟨rfl, rfl⟩
            go_wp2
            go_roundw
            case rel => exact ⟨j + 1, by omega, by go_num, HJ2, HB4⟩
            case measure => simp [intOf] <;> omega
          · have HF := Lib.hid (show T = false by
              rw [HT.out, Bool.eq_false_iff]
              intro h
              have := irrB_true.1 h d hd1 hdk j (by rw [← HPd.out]; exact hjP)
              rw [hdv] at this; cases this)
            unfold divB at hdv
            have hdv := of_decide_eq_true hdv
            rw [hdv] at HZ4
            clear hdv
            go_wp2_with fail
            refine (HZ4.out).mono ?_
            rintro e w' ⟨rfl, rfl⟩
            go_wp2
            go_ret
            exact ⟨by rw [HF.out]; rfl, HB4.out⟩
        · obtain rfl : j = P := by omega
          have HD2 := Lib.hid (show ∀ e, 1 ≤ e → e < d + 1 → 2 * e ≤ k → ∀ j, j < p ^ e → divB p k xs e j = false from fun e h1 h2 h3 i hi => by
            by_cases e2 : e = d
            · subst e2; exact HJ.out i (by rw [HPd.out]; exact hi)
            · exact HD.out e h1 (by omega) h3 i hi)
          go_wp2_with fail
          refine (HPw.out).mono ?_
          rintro e w' ⟨rfl, rfl⟩
          go_wp2
          go_roundw
          case rel => exact ⟨d + 1, by omega, by omega, by go_num, HD2, HB2⟩
          case measure => simp [intOf] <;> omega
    · have hdk2 : ¬ 2 * (d : Int) ≤ (k : Int) := by omega
      have HF := Lib.hid (show T = true by
        rw [HT.out]
        exact irrB_true.2 fun e h1 h2 j hj => HD.out e h1 (by omega) h2 j hj)
      go_wp2
      go_ret
      exact ⟨by rw [HF.out]; rfl, HB.out⟩
end Go.Proofs.Ytbbaeopobnpnmaa
