/-
  Numbers: isModulus, isResidue, IsSquareMod, SquaresMod, FactorsOf, IsPrime of the program; IsPrime of the reference. Conditions: those of each theorem.
-/
import Derived.Test.YtjoihaghoahnlaaMat
namespace Go.Proofs.Ytjoihaghoahnlaa
open Go.RowKit
set_option linter.unusedVariables false
set_option linter.unusedSimpArgs false

/-- The factors that the program still finds: false: at the head of the search with p; true: while p divides. f: fuel. -/
def facRun : Nat → Bool → Nat → Nat → List Int
  | 0, _, _, _ => []
  | f + 1, false, p, n => if p * p ≤ n then facRun f true p n else if 1 < n then [(n : Int)] else []
  | f + 1, true, p, n => if n % p = 0 then (p : Int) :: facRun f true p (n / p) else facRun f false (p + 1) n
def factors (n : Nat) : List Int := facRun (3 * n + 10) false 2 n

theorem facRun_go {f p n : Nat} (hf : 0 < f) (h : p * p ≤ n) : facRun f false p n = facRun (f - 1) true p n := by
  obtain ⟨g, rfl⟩ : ∃ g, f = g + 1 := ⟨f - 1, by omega⟩
  rw [facRun, if_pos h, Nat.add_sub_cancel]
theorem facRun_end {f p n : Nat} (hf : 0 < f) (h : ¬ p * p ≤ n) : facRun f false p n = if 1 < n then [(n : Int)] else [] := by
  obtain ⟨g, rfl⟩ : ∃ g, f = g + 1 := ⟨f - 1, by omega⟩
  rw [facRun, if_neg h]
theorem facRun_div {f p n : Nat} (hf : 0 < f) (h : n % p = 0) : facRun f true p n = (p : Int) :: facRun (f - 1) true p (n / p) := by
  obtain ⟨g, rfl⟩ : ∃ g, f = g + 1 := ⟨f - 1, by omega⟩
  rw [facRun, if_pos h, Nat.add_sub_cancel]
theorem facRun_next {f p n : Nat} (hf : 0 < f) (h : ¬ n % p = 0) : facRun f true p n = facRun (f - 1) false (p + 1) n := by
  obtain ⟨g, rfl⟩ : ∃ g, f = g + 1 := ⟨f - 1, by omega⟩
  rw [facRun, if_neg h, Nat.add_sub_cancel]

set_option maxHeartbeats 1000000 in
theorem FactorsOf_in (w : World) (n0 : Nat) (h1 : 1 ≤ n0) (h2 : n0 ≤ 1000000) :
    Calls Try.prog 91 #[.int .i64 (n0 : Int)] w (PostS w (factors n0)) := by
  have hw' := within_c (n0 : Int) 1 1000000
  rw [inB_true.2 (by omega)] at hw'
  have HW := Lib.hid hw'
  obtain ⟨T, hT⟩ : ∃ T, T = factors n0 := ⟨_, rfl⟩
  rw [← hT]
  have HT := Lib.hid hT
  clear hw' hT
  go_enter Try.func91, Try.ntmps91
  go_wp2_with fail
  refine (HW.out _).mono ?_
  rintro e w' ⟨rfl, rfl⟩
  go_wp2
  go_loopw [0, 3, 4] (fun a o q wr => ∃ (f p m s : Nat) (A : Option Addr) (c : Nat) (os : List Int), a = .int .i64 m ∧ q = .int .i64 p ∧ o = .slice A s c ∧ Hid (os.length = s) ∧ Hid (os ++ facRun f false p m = T) ∧
    2 * (n0 + 2 - p) + m + 1 ≤ f ∧ s + m ≤ n0 ∧ 1 ≤ m ∧ 2 ≤ p ∧ p ≤ n0 + 2 ∧ OwnI wr w.heap.size A c os ∧ Below w.heap.size w wr) (fun a _ q _ => 2 * (n0 + 2 - (intOf q).toNat) + (intOf a).toNat)
  case atStart => exact ⟨3 * n0 + 10, 2, n0, 0, none, 0, [], rfl, rfl, rfl, rfl, by show _ = _; rw [HT.out]; rfl, by omega, by omega, h1, by omega, by omega, OwnI.nil_ _ _, Below.refl _ _⟩
  case round =>
    obtain ⟨f, p, m, s, A, c, os, rfl, rfl, rfl, hs, hR, hf, hsm, hm1, hp2, hpn, ho, hB⟩ := hrel
    have HO := Lib.hid ho
    have hz := hB.size
    have hpp1 : 0 ≤ (p : Int) * (p : Int) := by rw [← Int.natCast_mul]; omega
    have hpp2 : (p : Int) * (p : Int) ≤ 1000002 * 1000002 := by
      rw [← Int.natCast_mul]
      have := Nat.mul_le_mul (show p ≤ 1000002 by omega) (show p ≤ 1000002 by omega)
      omega
    clear ho
    by_cases hle : p * p ≤ m
    · have hle' : (p : Int) * (p : Int) ≤ (m : Int) := by rw [← Int.natCast_mul]; omega
      have hpm : p ≤ m := Nat.le_trans (Nat.le_mul_of_pos_left p (by omega)) hle
      have HR := Lib.hid (show os ++ facRun (f - 1) true p m = T by rw [← facRun_go (by omega) hle]; exact hR.out)
      clear hle
      go_wp2
      go_loopw [0, 3] (fun a o wr => ∃ (f' m' s' : Nat) (A' : Option Addr) (c' : Nat) (os' : List Int), a = .int .i64 m' ∧ o = .slice A' s' c' ∧ Hid (os'.length = s') ∧ Hid (os' ++ facRun f' true p m' = T) ∧
        2 * (n0 + 2 - p) + m' ≤ f' ∧ s' + m' ≤ n0 ∧ 1 ≤ m' ∧ m' ≤ m ∧ OwnI wr w.heap.size A' c' os' ∧ Below w.heap.size w wr) (fun a _ _ => (intOf a).toNat)
      case atStart => exact ⟨f - 1, m, s, A, c, os, rfl, rfl, hs, HR, by omega, hsm, hm1, Nat.le_refl _, HO.out, hB⟩
      case round =>
        obtain ⟨f', m', s', A', c', os', rfl, rfl, hs', hR', hf', hsm', hm1', hmm, ho', hB'⟩ := hrel
        have hz' := hB'.size
        by_cases hd : m' % p = 0
        · have hd' : ((m' : Int) % (p : Int) == 0) = true := by rw [← Int.natCast_emod, hd]; rfl
          have hq0 : 1 ≤ m' / p := Nat.div_pos (Nat.le_of_dvd (by omega) (Nat.dvd_of_mod_eq_zero hd)) (by omega)
          have hq1 : m' / p ≤ m' / 2 := Nat.div_le_div_left hp2 (by omega)
          have HR2 := Lib.hid (show (os' ++ [(p : Int)]) ++ facRun (f' - 1) true p (m' / p) = T by rw [← hR'.out, facRun_div (by omega) hd]; simp)
          have HO1 := Lib.hid (ho'.alloc (.cells #[.int .i64 (p : Int)] 2))
          obtain ⟨qq, hqq⟩ : ∃ qq, qq = m' / p := ⟨_, rfl⟩
          have HQ := Lib.hid (show (m' : Int) / (p : Int) = (qq : Int) by rw [hqq]; simp)
          rw [← hqq] at hq0 hq1
          have HR3 := Lib.hid (show (os' ++ [(p : Int)]) ++ facRun (f' - 1) true p qq = T by rw [hqq]; exact HR2.out)
          have hlt2 : qq < m' := by omega
          have hq := HQ.out
          clear hd ho' hqq HR2
          go_wp2_with (at_builtin
                       refine wpI_append rfl _ _ rfl w.heap.size _ _ _ os' (p : Int) wr.heap.size rfl rfl hs'.out HO1.out (World.cell?_alloc_at _ _ _ _ rfl) (by omega) (by simp; omega) ?_
                       intro A2 c2 w2 ho2 hg2 ha2)
          have hB2 : Below w.heap.size w w2 := (hB'.alloc hz' _).trans (below_blk HO1.out hg2 (Nat.le_refl _) (by simp; omega))
          have HO2 := Lib.hid ho2
          clear ho2 hg2 ha2
          go_wp2
          clear hq
          go_roundw
          case rel => exact ⟨f' - 1, qq, s' + 1, A2, c2, os' ++ [(p : Int)], rfl, rfl, by show _ = _; rw [List.length_append, hs'.out]; rfl, HR3, by omega, by omega, hq0, by omega, HO2.out, hB2⟩
          case measure => simp [intOf]; omega
        · have hd' : ((m' : Int) % (p : Int) == 0) = false := beq_eq_false_iff_ne.2 (fun h => hd (by rw [← Int.natCast_emod] at h; omega))
          have HR2 := Lib.hid (show os' ++ facRun (f' - 1) false (p + 1) m' = T by rw [← facRun_next (by omega) hd]; exact hR'.out)
          have HO2 := Lib.hid ho'
          clear hd ho'
          go_wp2
          go_roundw
          case rel => exact ⟨f' - 1, p + 1, m', s', A', c', os', rfl, by go_num, rfl, hs', HR2, by omega, by omega, hm1', by omega, by omega, HO2.out, hB'⟩
          case measure => simp [intOf]; omega
    · have hle' : (m : Int) < (p : Int) * (p : Int) := by rw [← Int.natCast_mul]; omega
      have hR2 := hR.out
      rw [facRun_end (by omega) hle] at hR2
      by_cases hm : 1 < m
      · rw [if_pos hm] at hR2
        have HR2 := Lib.hid hR2
        have HO1 := Lib.hid (HO.out.alloc (.cells #[.int .i64 (m : Int)] 2))
        clear hR2 hle
        go_wp2_with (at_builtin
                     refine wpI_append rfl _ _ rfl w.heap.size _ _ _ os (m : Int) wr.heap.size rfl rfl hs.out HO1.out (World.cell?_alloc_at _ _ _ _ rfl) (by omega) (by simp; omega) ?_
                     intro A2 c2 w2 ho2 hg2 ha2)
        have hB2 : Below w.heap.size w w2 := (hB.alloc hz _).trans (below_blk HO1.out hg2 (Nat.le_refl _) (by simp; omega))
        have HO2 := Lib.hid (show OwnI w2 w.heap.size A2 c2 T by rw [← HR2.out]; exact ho2)
        have HL := Lib.hid (show T.length = s + 1 by rw [← HR2.out, List.length_append, hs.out]; rfl)
        clear ho2 hg2 ha2
        go_wp2
        go_ret
        exact ⟨⟨A2, _, c2, rfl, HL.out, HO2.out⟩, hB2⟩
      · rw [if_neg hm, List.append_nil] at hR2
        subst hR2
        have hm' : (m : Int) ≤ 1 := by omega
        clear hm hle
        go_wp2
        go_ret
        exact ⟨⟨A, s, c, rfl, hs.out, HO.out⟩, hB⟩

set_option maxHeartbeats 400000 in
theorem FactorsOf_out (w : World) (n : Int) (h : ¬ (1 ≤ n ∧ n ≤ 1000000)) :
    Calls Try.prog 91 #[.int .i64 n] w (PostS w []) := by
  have hw' := within_c n 1 1000000
  rw [inB_false.2 h] at hw'
  have HW := Lib.hid hw'
  clear hw' h
  go_enter Try.func91, Try.ntmps91
  go_wp2_with fail
  refine (HW.out _).mono ?_
  rintro e w' ⟨rfl, rfl⟩
  go_wp2
  go_ret
  exact ⟨⟨none, 0, 0, rfl, rfl, OwnI.nil_ _ _⟩, Below.refl _ _⟩

/-- What the program's FactorsOf gives. -/
def factorsZ (n : Int) : List Int := if 1 ≤ n ∧ n ≤ 1000000 then factors n.toNat else []
theorem FactorsOf_c (w : World) (n : Int) : Calls Try.prog 91 #[.int .i64 n] w (PostS w (factorsZ n)) := by
  by_cases h : 1 ≤ n ∧ n ≤ 1000000
  · rw [show factorsZ n = factors n.toNat by unfold factorsZ; rw [if_pos h]]
    obtain ⟨k, rfl⟩ := Int.eq_ofNat_of_zero_le (show 0 ≤ n by omega)
    rw [Int.toNat_natCast]
    exact FactorsOf_in w k (by omega) (by omega)
  · rw [show factorsZ n = [] by unfold factorsZ; rw [if_neg h]]
    exact FactorsOf_out w n h

def primeI (n : Int) : Bool := decide ((factorsZ n).length = 1)
set_option maxHeartbeats 400000 in
theorem implIsPrime_c (w : World) (n : Int) : Calls Try.prog 59 #[.int .i64 n] w (PostV w (.bool (primeI n))) := by
  have HC := Lib.hid (FactorsOf_c w n)
  rcases hp : primeI n with _ | _
  · have hl : ¬ (factorsZ n).length = 1 := of_decide_eq_false hp
    have HL := Lib.hid hl
    clear hp hl
    go_enter Try.func59, Try.ntmps59
    go_wp2_with fail
    refine (HC.out).mono ?_
    rintro e w1 ⟨⟨A1, n1, c1, rfl, hn1, ho1⟩, hb1⟩
    have h1 : ((n1 : Int) == 1) = false := beq_eq_false_iff_ne.2 (fun h => HL.out (by omega))
    have h2 : (n1 == 1) = false := beq_eq_false_iff_ne.2 (fun h => HL.out (by omega))
    clear hn1 ho1
    go_wp2
    go_ret
    exact ⟨rfl, hb1⟩
  · have hl : (factorsZ n).length = 1 := of_decide_eq_true hp
    have HL := Lib.hid hl
    clear hp hl
    go_enter Try.func59, Try.ntmps59
    go_wp2_with fail
    refine (HC.out).mono ?_
    rintro e w1 ⟨⟨A1, n1, c1, rfl, hn1, ho1⟩, hb1⟩
    obtain rfl : n1 = 1 := by rw [← hn1]; exact HL.out
    clear hn1 ho1
    go_wp2
    go_ret
    exact ⟨rfl, hb1⟩

/-! ### The reference's IsPrime, up to 32 -/

def primeS (n : Nat) : Bool := decide (2 ≤ n ∧ ∀ d, d < n → 2 ≤ d → d * d ≤ n → ¬ n % d = 0)
set_option maxHeartbeats 1000000 in
theorem specIsPrime_c (w : World) (n : Nat) (h1 : 2 ≤ n) (h2 : n ≤ 1000000) : Calls Try.prog 57 #[.int .i64 (n : Int)] w fun e w' => e = .returned (.bool (primeS n)) ∧ w = w' := by
  have hw' := in_c (n : Int) 2 1000000
  rw [inB_true.2 (by omega)] at hw'
  have HW := Lib.hid hw'
  obtain ⟨T, hT⟩ : ∃ T, T = primeS n := ⟨_, rfl⟩
  rw [← hT]
  have HT := Lib.hid hT
  clear hw' hT
  go_enter Try.func57, Try.ntmps57
  go_wp2_with fail
  refine (HW.out _).mono ?_
  rintro e w' ⟨rfl, rfl⟩
  go_wp2
  go_loop [3] (fun q => ∃ p : Nat, q = .int .i64 p ∧ 2 ≤ p ∧ p ≤ n + 1 ∧ Hid (∀ d, d < p → 2 ≤ d → ¬ n % d = 0)) (fun q => n + 2 - (intOf q).toNat)
  case atStart => exact ⟨2, rfl, by omega, by omega, fun d hd h2 => absurd hd (by omega)⟩
  case round =>
    obtain ⟨p, rfl, hp2, hpn, hD⟩ := hrel
    have hpp1 : 0 ≤ (p : Int) * (p : Int) := by rw [← Int.natCast_mul]; omega
    have hpp2 : (p : Int) * (p : Int) ≤ 1000002 * 1000002 := by
      rw [← Int.natCast_mul]
      have := Nat.mul_le_mul (show p ≤ 1000002 by omega) (show p ≤ 1000002 by omega)
      omega
    by_cases hle : p * p ≤ n
    · have hle' : (p : Int) * (p : Int) ≤ (n : Int) := by rw [← Int.natCast_mul]; omega
      have hpn2 : p * 2 ≤ n := Nat.le_trans (Nat.mul_le_mul_left p hp2) hle
      by_cases hd : n % p = 0
      · have hd' : ((n : Int) % (p : Int) == 0) = true := by rw [← Int.natCast_emod, hd]; rfl
        have HF := Lib.hid (show T = false by
          rw [HT.out]
          exact decide_eq_false (fun h => h.2 p (by omega) hp2 hle hd))
        clear hd hle
        go_wp2
        go_ret
        exact ⟨ret_b HF.out.symm, rfl⟩
      · have hd' : ((n : Int) % (p : Int) == 0) = false := beq_eq_false_iff_ne.2 (fun h => hd (by rw [← Int.natCast_emod] at h; omega))
        have HD := Lib.hid hd
        clear hd hle
        go_wp2
        go_round
        case rel =>
          refine ⟨p + 1, by go_num, by omega, by omega, fun d hd h2 => ?_⟩
          by_cases e : d = p
          · subst e; exact HD.out
          · exact hD.out d (by omega) h2
        case measure => simp [intOf]; omega
    · have hle' : (n : Int) < (p : Int) * (p : Int) := by rw [← Int.natCast_mul]; omega
      have HF := Lib.hid (show T = true by
        rw [HT.out]
        refine decide_eq_true ⟨h1, fun d hdn hd2 hdd => ?_⟩
        rcases Nat.lt_or_ge d p with h | h
        · exact hD.out d h hd2
        · exact absurd (Nat.le_trans (Nat.mul_le_mul h h) hdd) hle)
      clear hle
      go_wp2
      go_ret
      exact ⟨ret_b HF.out.symm, rfl⟩

/-! ### Residues, squares -/

theorem isModulus_c (m : Int) (w : World) : Calls Try.prog 92 #[.int .i64 m] w fun e w' => e = .returned (.bool (inB m 1 1000)) ∧ w = w' := by
  have HW := Lib.hid (within_c m 1 1000)
  go_enter Try.func92, Try.ntmps92
  go_wp2_with fail
  refine (HW.out _).mono ?_
  rintro e w' ⟨rfl, rfl⟩
  go_wp2
  go_ret
  exact ⟨rfl, rfl⟩

theorem isResidue_yes (a m : Int) (h1 : 1 ≤ m ∧ m ≤ 1000) (h2 : 0 ≤ a ∧ a ≤ m - 1) (w : World) : Calls Try.prog 115 #[.int .i64 a, .int .i64 m] w fun e w' => e = .returned (.bool true) ∧ w = w' := by
  have hm := isModulus_c m
  rw [inB_true.2 h1] at hm
  have hw := within_c a 0 (m - 1)
  rw [inB_true.2 h2] at hw
  have HM := Lib.hid hm
  have HW := Lib.hid hw
  obtain ⟨h3, h4⟩ := h1
  clear hm hw h2
  go_enter Try.func115, Try.ntmps115
  go_wp2_with fail
  refine (HM.out _).mono ?_
  rintro e w' ⟨rfl, rfl⟩
  go_wp2_with fail
  refine (HW.out _).mono ?_
  rintro e w' ⟨rfl, rfl⟩
  go_wp2
  go_ret
  exact ⟨rfl, rfl⟩

/-- a is a square modulo m. -/
def sqB (a m : Nat) : Bool := decide (∃ x, x < m ∧ x * x % m = a)
set_option maxHeartbeats 1000000 in
theorem IsSquareMod_c (a m : Nat) (h1 : 1 ≤ a) (h2 : a < m) (h3 : m ≤ 1000) (w : World) : Calls Try.prog 93 #[.int .i64 (a : Int), .int .i64 (m : Int)] w fun e w' => e = .returned (.bool (sqB a m)) ∧ w = w' := by
  have HR := Lib.hid (isResidue_yes (a : Int) (m : Int) (by omega) (by omega))
  obtain ⟨T, hT⟩ : ∃ T, T = sqB a m := ⟨_, rfl⟩
  rw [← hT]
  have HT := Lib.hid hT
  have ha0 : ((a : Int) == 0) = false := beq_eq_false_iff_ne.2 (by omega)
  have ha0' : (a == 0) = false := beq_eq_false_iff_ne.2 (by omega)
  clear hT
  go_enter Try.func93, Try.ntmps93
  go_wp2_with fail
  refine (HR.out _).mono ?_
  rintro e w' ⟨rfl, rfl⟩
  go_wp2
  go_loop [5] (fun q => ∃ x : Nat, q = .int .i64 x ∧ x ≤ m ∧ Hid (∀ d, d < x → ¬ d * d % m = a)) (fun q => m - (intOf q).toNat)
  case atStart => exact ⟨0, rfl, by omega, fun d hd => absurd hd (by omega)⟩
  case round =>
    obtain ⟨x, rfl, hx, hD⟩ := hrel
    by_cases hlt : x < m
    · have hpp1 : 0 ≤ (x : Int) * (x : Int) := by rw [← Int.natCast_mul]; omega
      have hpp2 : (x : Int) * (x : Int) ≤ 1000 * 1000 := by
        rw [← Int.natCast_mul]
        have := Nat.mul_le_mul (show x ≤ 1000 by omega) (show x ≤ 1000 by omega)
        omega
      have hmod : (x : Int) * (x : Int) % (m : Int) = ((x * x % m : Nat) : Int) := by rw [← Int.natCast_mul, ← Int.natCast_emod]
      by_cases hd : x * x % m = a
      · have hd' : ((x : Int) * (x : Int) % (m : Int) == (a : Int)) = true := by rw [hmod, hd]; simp
        have HF := Lib.hid (show T = true by rw [HT.out]; exact decide_eq_true ⟨x, hlt, hd⟩)
        clear hd hmod
        go_wp2
        go_ret
        exact ⟨ret_b HF.out.symm, rfl⟩
      · have hd' : ((x : Int) * (x : Int) % (m : Int) == (a : Int)) = false := beq_eq_false_iff_ne.2 (fun h => hd (by rw [hmod] at h; omega))
        have HD := Lib.hid hd
        clear hd hmod
        go_wp2
        go_round
        case rel =>
          refine ⟨x + 1, by go_num, by omega, fun d hd => ?_⟩
          by_cases e : d = x
          · subst e; exact HD.out
          · exact hD.out d (by omega)
        case measure => simp [intOf]; omega
    · obtain rfl : x = m := by omega
      have HF := Lib.hid (show T = false by rw [HT.out]; exact decide_eq_false (fun h => by obtain ⟨d, hd, he⟩ := h; exact hD.out d hd he))
      go_wp2
      go_ret
      exact ⟨ret_b HF.out.symm, rfl⟩

/-- The squares among 1 .. k. -/
def sqsTo (m k : Nat) : List Int := ((List.range k).filter fun j => sqB (j + 1) m).map fun (j : Nat) => ((j + 1 : Nat) : Int)
theorem sqsTo_succ (m k : Nat) : sqsTo m (k + 1) = sqsTo m k ++ if sqB (k + 1) m = true then [((k + 1 : Nat) : Int)] else [] := by
  unfold sqsTo
  rw [List.range_succ, List.filter_append, List.map_append]
  by_cases h : sqB (k + 1) m = true <;> simp [List.filter_cons, h]
set_option maxHeartbeats 1000000 in
theorem SquaresMod_c (m : Nat) (h1 : 1 ≤ m) (h2 : m ≤ 1000) (w : World) : Calls Try.prog 60 #[.int .i64 (m : Int)] w (PostS w (sqsTo m (m - 1))) := by
  have hm := isModulus_c (m : Int)
  rw [inB_true.2 (by omega)] at hm
  have HM := Lib.hid hm
  clear hm
  go_enter Try.func60, Try.ntmps60
  go_wp2_with fail
  refine (HM.out _).mono ?_
  rintro e w' ⟨rfl, rfl⟩
  go_wp2
  go_loopw [3, 4] (fun o q wr => ∃ (k s : Nat) (A : Option Addr) (c : Nat), k + 1 ≤ m ∧ q = .int .i64 ((k : Int) + 1) ∧ o = .slice A s c ∧ Hid ((sqsTo m k).length = s) ∧ s ≤ k ∧ OwnI wr w.heap.size A c (sqsTo m k) ∧ Below w.heap.size w wr) (fun _ q _ => m - (intOf q).toNat)
  case atStart => exact ⟨0, 0, none, 0, by omega, rfl, rfl, rfl, by omega, OwnI.nil_ _ _, Below.refl _ _⟩
  case round =>
    obtain ⟨k, s, A, c, hk, rfl, rfl, hs, hsk, ho, hB⟩ := hrel
    have HO := Lib.hid ho
    have hz := hB.size
    clear ho
    by_cases hlt : k + 1 < m
    · have hS := sqsTo_succ m k
      have hcall := fun W => IsSquareMod_c (k + 1) m (by omega) hlt h2 W
      rw [show ((k + 1 : Nat) : Int) = (k : Int) + 1 by omega] at hcall hS
      by_cases hq : sqB (k + 1) m = true
      · rw [hq] at hcall
        rw [if_pos hq] at hS
        have HC := Lib.hid hcall
        have HS := Lib.hid hS
        have HO1 := Lib.hid (HO.out.alloc (.cells #[.int .i64 ((k : Int) + 1)] 2))
        clear hcall hS hq
        go_wp2_with (first
          | (go_at_call 93; refine (HC.out _).mono ?_; rintro e w1 ⟨rfl, rfl⟩)
          | (at_builtin
             refine wpI_append rfl _ _ rfl w.heap.size _ _ _ (sqsTo m k) ((k : Int) + 1) wr.heap.size rfl rfl hs.out HO1.out (World.cell?_alloc_at _ _ _ _ rfl) (by omega) (by simp; omega) ?_
             intro A2 c2 w2 ho2 hg2 ha2))
        have hB2 : Below w.heap.size w w2 := (hB.alloc hz _).trans (below_blk HO1.out hg2 (Nat.le_refl _) (by simp; omega))
        have HO2 := Lib.hid ho2
        clear ho2 hg2 ha2
        go_wp2
        go_roundw
        case rel => exact ⟨k + 1, s + 1, A2, c2, by omega, by go_num, rfl, by show _ = _; rw [HS.out, List.length_append, hs.out]; rfl, by omega, by rw [HS.out]; exact HO2.out, hB2⟩
        case measure => simp [intOf]; omega
      · have hq' : sqB (k + 1) m = false := by simpa using hq
        rw [hq'] at hcall
        rw [if_neg hq, List.append_nil] at hS
        have HC := Lib.hid hcall
        have HS := Lib.hid hS
        clear hcall hS hq hq'
        go_wp2_with (go_at_call 93; refine (HC.out _).mono ?_; rintro e w1 ⟨rfl, rfl⟩)
        go_roundw
        case rel => exact ⟨k + 1, s, A, c, by omega, by go_num, rfl, by show _ = _; rw [HS.out]; exact hs.out, by omega, by rw [HS.out]; exact HO.out, hB⟩
        case measure => simp [intOf]; omega
    · obtain rfl : k = m - 1 := by omega
      have hge : (m : Int) ≤ ((m - 1 : Nat) : Int) + 1 := by omega
      go_wp2
      go_ret
      exact ⟨⟨A, s, c, rfl, hs.out, HO.out⟩, hB⟩
end Go.Proofs.Ytjoihaghoahnlaa
