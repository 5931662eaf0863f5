/-
  Numbers: isModulus, isResidue, IsSquareMod, SquaresMod, FactorsOf, IsPrime of the program; IsPrime of the reference. Conditions: those of each theorem.
-/
import Derived.Test.YtbbaeopobnpnmaaMat
namespace Go.Proofs.Ytbbaeopobnpnmaa
open Go.RowKit
set_option linter.unusedVariables false
set_option linter.unusedSimpArgs false

/-- The factors that the program still finds: false: at the head of the search with p; true: while p divides. f: fuel. -/
def facRun : Nat → Bool → Nat → Nat → List Int
  | 0, _, _, _ => []
  | f + 1, false, p, n => if p * p ≤ n then facRun f true p n else if 1 < n then [(n : Int)] else []
  | f + 1, true, p, n => if n % p = 0 then (p : Int) :: facRun f true p (n / p) else facRun f false (p + 1) n
def factors (n : Nat) : List Int := facRun (3 * n + 10) false 2 n

theorem facRun_go {f p n : Nat} (hf : 0 < f) (h : p * p ≤ n) : facRun f false p n = facRun (f - 1) true p n := by
  obtain ⟨g, rfl⟩ : ∃ g, f = g + 1 := ⟨f - 1, by omega⟩
  rw [facRun, if_pos h, Nat.add_sub_cancel]
theorem facRun_end {f p n : Nat} (hf : 0 < f) (h : ¬ p * p ≤ n) : facRun f false p n = if 1 < n then [(n : Int)] else [] := by
  obtain ⟨g, rfl⟩ : ∃ g, f = g + 1 := ⟨f - 1, by omega⟩
  rw [facRun, if_neg h]
theorem facRun_div {f p n : Nat} (hf : 0 < f) (h : n % p = 0) : facRun f true p n = (p : Int) :: facRun (f - 1) true p (n / p) := by
  obtain ⟨g, rfl⟩ : ∃ g, f = g + 1 := ⟨f - 1, by omega⟩
  rw [facRun, if_pos h, Nat.add_sub_cancel]
theorem facRun_next {f p n : Nat} (hf : 0 < f) (h : ¬ n % p = 0) : facRun f true p n = facRun (f - 1) false (p + 1) n := by
  obtain ⟨g, rfl⟩ : ∃ g, f = g + 1 := ⟨f - 1, by omega⟩
  rw [facRun, if_neg h, Nat.add_sub_cancel]

set_option maxHeartbeats 1000000 in
theorem FactorsOf_in (w : World) (n0 : Nat) (h1 : 1 ≤ n0) (h2 : n0 ≤ 1000000) :
    Calls Try.prog 61 #[.int .i64 (n0 : Int)] w (PostS w (factors n0)) := by
  have hw' := within_c (n0 : Int) 1 1000000
  rw [inB_true.2 (by omega)] at hw'
  have HW := Lib.hid hw'
  obtain ⟨T, hT⟩ : ∃ T, T = factors n0 := ⟨_, rfl⟩
  rw [← hT]
  have HT := Lib.hid hT
  clear hw' hT
  go_enter Try.func61, Try.ntmps61
  go_wp2_with fail
  refine (HW.out _).mono ?_
  rintro e w' ⟨rfl, rfl⟩
  go_wp2
  go_loopw [0, 3, 4] (fun a o q wr => ∃ (f p m s : Nat) (A : Option Addr) (c : Nat) (os : List Int), a = .int .i64 m ∧ q = .int .i64 p ∧ o = .slice A s c ∧ Hid (os.length = s) ∧ Hid (os ++ facRun f false p m = T) ∧
    2 * (n0 + 2 - p) + m + 1 ≤ f ∧ s + m ≤ n0 ∧ 1 ≤ m ∧ 2 ≤ p ∧ p ≤ n0 + 2 ∧ OwnI wr w.heap.size A c os ∧ Below w.heap.size w wr) (fun a _ q _ => 2 * (n0 + 2 - (intOf q).toNat) + (intOf a).toNat)
  case atStart => exact ⟨3 * n0 + 10, 2, n0, 0, none, 0, [], rfl, rfl, rfl, rfl, by show _ = _; rw [HT.out]; rfl, by omega, by omega, h1, by omega, by omega, OwnI.nil_ _ _, Below.refl _ _⟩
  case round =>
    obtain ⟨f, p, m, s, A, c, os, rfl, rfl, rfl, hs, hR, hf, hsm, hm1, hp2, hpn, ho, hB⟩ := hrel
    have HO := Lib.hid ho
    have hz := hB.size
    have hpp1 : 0 ≤ (p : Int) * (p : Int) := by rw [← Int.natCast_mul]; omega
    have hpp2 : (p : Int) * (p : Int) ≤ 1000002 * 1000002 := by
      rw [← Int.natCast_mul]
      have := Nat.mul_le_mul (show p ≤ 1000002 by omega) (show p ≤ 1000002 by omega)
      omega
    clear ho
    by_cases hle : p * p ≤ m
    · have hle' : (p : Int) * (p : Int) ≤ (m : Int) := by rw [← Int.natCast_mul]; omega
      have hpm : p ≤ m := Nat.le_trans (Nat.le_mul_of_pos_left p (by omega)) hle
      have HR := Lib.hid (show os ++ facRun (f - 1) true p m = T by rw [← facRun_go (by omega) hle]; exact hR.out)
      clear hle
      go_wp2
      go_loopw [0, 3] (fun a o wr => ∃ (f' m' s' : Nat) (A' : Option Addr) (c' : Nat) (os' : List Int), a = .int .i64 m' ∧ o = .slice A' s' c' ∧ Hid (os'.length = s') ∧ Hid (os' ++ facRun f' true p m' = T) ∧
        2 * (n0 + 2 - p) + m' ≤ f' ∧ s' + m' ≤ n0 ∧ 1 ≤ m' ∧ m' ≤ m ∧ OwnI wr w.heap.size A' c' os' ∧ Below w.heap.size w wr) (fun a _ _ => (intOf a).toNat)
      case atStart => exact ⟨f - 1, m, s, A, c, os, rfl, rfl, hs, HR, by omega, hsm, hm1, Nat.le_refl _, HO.out, hB⟩
      case round =>
        obtain ⟨f', m', s', A', c', os', rfl, rfl, hs', hR', hf', hsm', hm1', hmm, ho', hB'⟩ := hrel
        have hz' := hB'.size
        by_cases hd : m' % p = 0
        · have hd' : ((m' : Int) % (p : Int) == 0) = true := by rw [← Int.natCast_emod, hd]; rfl
          have hq0 : 1 ≤ m' / p := Nat.div_pos (Nat.le_of_dvd (by omega) (Nat.dvd_of_mod_eq_zero hd)) (by omega)
          have hq1 : m' / p ≤ m' / 2 := Nat.div_le_div_left hp2 (by omega)
          have HR2 := Lib.hid (show (os' ++ [(p : Int)]) ++ facRun (f' - 1) true p (m' / p) = T by rw [← hR'.out, facRun_div (by omega) hd]; simp)
          have HO1 := Lib.hid (ho'.alloc (.cells #[.int .i64 (p : Int)] 2))
          obtain ⟨qq, hqq⟩ : ∃ qq, qq = m' / p := ⟨_, rfl⟩
          have HQ := Lib.hid (show (m' : Int) / (p : Int) = (qq : Int) by rw [hqq]; simp)
          rw [← hqq] at hq0 hq1
          have HR3 := Lib.hid (show (os' ++ [(p : Int)]) ++ facRun (f' - 1) true p qq = T by rw [hqq]; exact HR2.out)
          have hlt2 : qq < m' := by omega
          have hq := HQ.out
          clear hd ho' hqq HR2
          go_wp2_with (at_builtin
                       refine wpI_append rfl _ _ rfl w.heap.size _ _ _ os' (p : Int) wr.heap.size rfl rfl hs'.out HO1.out (World.cell?_alloc_at _ _ _ _ rfl) (by omega) (by simp; omega) ?_
                       intro A2 c2 w2 ho2 hg2 ha2)
          have hB2 : Below w.heap.size w w2 := (hB'.alloc hz' _).trans (below_blk HO1.out hg2 (Nat.le_refl _) (by simp; omega))
          have HO2 := Lib.hid ho2
          clear ho2 hg2 ha2
          go_wp2
          clear hq
          go_roundw
          case rel => exact ⟨f' - 1, qq, s' + 1, A2, c2, os' ++ [(p : Int)], rfl, rfl, by show _ = _; rw [List.length_append, hs'.out]; rfl, HR3, by omega, by omega, hq0, by omega, HO2.out, hB2⟩
          case measure => simp [intOf]; omega
        · have hd' : ((m' : Int) % (p : Int) == 0) = false := beq_eq_false_iff_ne.2 (fun h => hd (by rw [← Int.natCast_emod] at h; omega))
          have HR2 := Lib.hid (show os' ++ facRun (f' - 1) false (p + 1) m' = T by rw [← facRun_next (by omega) hd]; exact hR'.out)
          have HO2 := Lib.hid ho'
          clear hd ho'
          go_wp2
          go_roundw
          case rel => exact ⟨f' - 1, p + 1, m', s', A', c', os', rfl, by go_num, rfl, hs', HR2, by omega, by omega, hm1', by omega, by omega, HO2.out, hB'⟩
          case measure => simp [intOf]; omega
    · have hle' : (m : Int) < (p : Int) * (p : Int) := by rw [← Int.natCast_mul]; omega
      have hR2 := hR.out
      rw [facRun_end (by omega) hle] at hR2
      by_cases hm : 1 < m
      · rw [if_pos hm] at hR2
        have HR2 := Lib.hid hR2
        have HO1 := Lib.hid (HO.out.alloc (.cells #[.int .i64 (m : Int)] 2))
        clear hR2 hle
        go_wp2_with (at_builtin
                     refine wpI_append rfl _ _ rfl w.heap.size _ _ _ os (m : Int) wr.heap.size rfl rfl hs.out HO1.out (World.cell?_alloc_at _ _ _ _ rfl) (by omega) (by simp; omega) ?_
                     intro A2 c2 w2 ho2 hg2 ha2)
        have hB2 : Below w.heap.size w w2 := (hB.alloc hz _).trans (below_blk HO1.out hg2 (Nat.le_refl _) (by simp; omega))
        have HO2 := Lib.hid (show OwnI w2 w.heap.size A2 c2 T by rw [← HR2.out]; exact ho2)
        have HL := Lib.hid (show T.length = s + 1 by rw [← HR2.out, List.length_append, hs.out]; rfl)
        clear ho2 hg2 ha2
        go_wp2
        go_ret
        exact ⟨⟨A2, _, c2, rfl, HL.out, HO2.out⟩, hB2⟩
      · rw [if_neg hm, List.append_nil] at hR2
        subst hR2
        have hm' : (m : Int) ≤ 1 := by omega
        clear hm hle
        go_wp2
        go_ret
        exact ⟨⟨A, s, c, rfl, hs.out, HO.out⟩, hB⟩

set_option maxHeartbeats 400000 in
theorem FactorsOf_out (w : World) (n : Int) (h : ¬ (1 ≤ n ∧ n ≤ 1000000)) :
    Calls Try.prog 61 #[.int .i64 n] w (PostS w []) := by
  have hw' := within_c n 1 1000000
  rw [inB_false.2 h] at hw'
  have HW := Lib.hid hw'
  clear hw' h
  go_enter Try.func61, Try.ntmps61
  go_wp2_with fail
  refine (HW.out _).mono ?_
  rintro e w' ⟨rfl, rfl⟩
  go_wp2
  go_ret
  exact ⟨⟨none, 0, 0, rfl, rfl, OwnI.nil_ _ _⟩, Below.refl _ _⟩

/-- What the program's FactorsOf gives. -/
def factorsZ (n : Int) : List Int := if 1 ≤ n ∧ n ≤ 1000000 then factors n.toNat else []
theorem FactorsOf_c (w : World) (n : Int) : Calls Try.prog 61 #[.int .i64 n] w (PostS w (factorsZ n)) := by
  by_cases h : 1 ≤ n ∧ n ≤ 1000000
  · rw [show factorsZ n = factors n.toNat by unfold factorsZ; rw [if_pos h]]
    obtain ⟨k, rfl⟩ := Int.eq_ofNat_of_zero_le (show 0 ≤ n by omega)
    rw [Int.toNat_natCast]
    exact FactorsOf_in w k (by omega) (by omega)
  · rw [show factorsZ n = [] by unfold factorsZ; rw [if_neg h]]
    exact FactorsOf_out w n h

def primeI (n : Int) : Bool := decide ((factorsZ n).length = 1)
set_option maxHeartbeats 400000 in
theorem implIsPrime_c (w : World) (n : Int) : Calls Try.prog 65 #[.int .i64 n] w (PostV w (.bool (primeI n))) := by
  have HC := Lib.hid (FactorsOf_c w n)
  rcases hp : primeI n with _ | _
  · have hl : ¬ (factorsZ n).length = 1 := of_decide_eq_false hp
    have HL := Lib.hid hl
    clear hp hl
    go_enter Try.func65, Try.ntmps65
    go_wp2_with fail
    refine (HC.out).mono ?_
    rintro e w1 ⟨⟨A1, n1, c1, rfl, hn1, ho1⟩, hb1⟩
    have h1 : ((n1 : Int) == 1) = false := beq_eq_false_iff_ne.2 (fun h => HL.out (by omega))
    have h2 : (n1 == 1) = false := beq_eq_false_iff_ne.2 (fun h => HL.out (by omega))
    clear hn1 ho1
    go_wp2
    go_ret
    exact ⟨rfl, hb1⟩
  · have hl : (factorsZ n).length = 1 := of_decide_eq_true hp
    have HL := Lib.hid hl
    clear hp hl
    go_enter Try.func65, Try.ntmps65
    go_wp2_with fail
    refine (HC.out).mono ?_
    rintro e w1 ⟨⟨A1, n1, c1, rfl, hn1, ho1⟩, hb1⟩
    obtain rfl : n1 = 1 := by rw [← hn1]; exact HL.out
    clear hn1 ho1
    go_wp2
    go_ret
    exact ⟨rfl, hb1⟩

/-! ### The reference's IsPrime, up to 32 -/

def primeS (n : Nat) : Bool := decide (2 ≤ n ∧ ∀ d, d < n → 2 ≤ d → d * d ≤ n → ¬ n % d = 0)
/-! ### Residues, squares -/

/-- a is a square modulo m. -/
def sqB (a m : Nat) : Bool := decide (∃ x, x < m ∧ x * x % m = a)
/-- The squares among 1 .. k. -/
def sqsTo (m k : Nat) : List Int := ((List.range k).filter fun j => sqB (j + 1) m).map fun (j : Nat) => ((j + 1 : Nat) : Int)
theorem sqsTo_succ (m k : Nat) : sqsTo m (k + 1) = sqsTo m k ++ if sqB (k + 1) m = true then [((k + 1 : Nat) : Int)] else [] := by
  unfold sqsTo
  rw [List.range_succ, List.filter_append, List.map_append]
  by_cases h : sqB (k + 1) m = true <;> simp [List.filter_cons, h]
end Go.Proofs.Ytbbaeopobnpnmaa
