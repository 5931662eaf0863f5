/-
  PaleySet: contracts of the program's and of the reference's functions. Conditions: those of each theorem.
-/
import Derived.Test.YtjoihaghoahnlaaNum
import Derived.Test.YtjoihaghoahnlaaPut
import Derived.Test.YtjoihaghoahnlaaLawKit
namespace Go.Proofs.Ytjoihaghoahnlaa
open Go.RowKit
set_option linter.unusedVariables false
set_option linter.unusedSimpArgs false

def okN (n : Nat) : Bool := decide (n = 3 ∨ n = 7 ∨ n = 11 ∨ n = 19 ∨ n = 23 ∨ n = 31)
def putTo (p : Nat) : Nat → List Int
  | 0 => []
  | k + 1 => putL (putTo p k) (((k + 1) * (k + 1) % p : Nat) : Int)
theorem putTo_all : ∀ n : Nat, n < 33 → okN n = true → putTo n (n - 1) = sqsTo n (n - 1) := by decide +kernel
theorem ok_spec : ∀ n : Nat, n < 33 → 3 ≤ n → ((primeS n && decide (n % 4 = 3)) = okN n) := by decide +kernel
theorem ok_impl : ∀ n : Nat, n < 33 → ((primeI (n : Int) && decide (n % 4 = 3)) = okN n) := by decide +kernel
theorem putTo_len (p k : Nat) : (putTo p k).length ≤ k := by
  induction k with
  | zero => simp [putTo]
  | succ k ih => have := putL_length (putTo p k) (((k + 1) * (k + 1) % p : Nat) : Int); rw [putTo]; omega

def okZ (p : Int) : Bool := decide (0 ≤ p) && okN p.toNat
def paleyL (p : Int) : List Int := if okZ p = true then sqsTo p.toNat (p.toNat - 1) else []
def paleyC (p : Int) : Int := if okZ p = true then 0 else 2
theorem okN_le {n : Nat} (h : okN n = true) : 3 ≤ n ∧ n ≤ 31 := by have := of_decide_eq_true h; omega
theorem sqsTo_len (m k : Nat) : (sqsTo m k).length ≤ k := by
  unfold sqsTo
  rw [List.length_map]
  exact Nat.le_trans (List.length_filter_le _ _) (by simp)
theorem PaleySet_small (p : Int) : (paleyL p).length ≤ 1048576 := by
  unfold paleyL
  split
  · next h =>
    simp only [okZ, Bool.and_eq_true, decide_eq_true_eq] at h
    have := okN_le h.2
    have := sqsTo_len p.toNat (p.toNat - 1)
    omega
  · simp

set_option maxHeartbeats 1000000 in
theorem specPaleySet_c (w : World) (p : Int) (hp : -9223372036854775808 ≤ p ∧ p ≤ 9223372036854775807) :
    Calls Try.prog 25 #[.int .i64 p] w (PostSC w (paleyL p) (paleyC p)) := by
  by_cases h : 3 ≤ p ∧ p ≤ 32
  · obtain ⟨n, rfl⟩ := Int.eq_ofNat_of_zero_le (show 0 ≤ p by omega)
    have hw' := in_c (n : Int) 3 32
    rw [inB_true.2 h] at hw'
    have HW := Lib.hid hw'
    have hpr := fun W => specIsPrime_c W n (by omega) (by omega)
    have hok := ok_spec n (by omega) (by omega)
    have hn3 : 3 ≤ n := by omega
    have hn32 : n ≤ 32 := by omega
    rcases hq : primeS n with _ | _
    · rw [hq] at hpr hok
      have e : okZ (n : Int) = false := by simp [okZ, ← hok]
      rw [show paleyL (n : Int) = [] by simp [paleyL, e], show paleyC (n : Int) = 2 by simp [paleyC, e]]
      have HP := Lib.hid hpr
      clear hw' hpr hok hq e h hp
      go_enter Try.func25, Try.ntmps25
      go_wp2_with fail
      refine (HW.out _).mono ?_
      rintro e w' ⟨rfl, rfl⟩
      go_wp2_with fail
      refine (HP.out _).mono ?_
      rintro e w' ⟨rfl, rfl⟩
      go_wp2
      go_ret2
      exact ⟨⟨none, 0, 0, rfl, rfl, OwnI.nil_ _ _⟩, Below.refl _ _⟩
    · rw [hq] at hpr hok
      by_cases h4 : n % 4 = 3
      · have e : okN n = true := by rw [← hok]; simp [h4]
        have e' : okZ (n : Int) = true := by simp [okZ, e]
        rw [show paleyL (n : Int) = putTo n (n - 1) by rw [putTo_all n (by omega) e]; simp [paleyL, e'], show paleyC (n : Int) = 0 by simp [paleyC, e']]
        have HP := Lib.hid hpr
        have H4 : ((n : Int) % 4 != 3) = false := by rw [show (n : Int) % 4 = 3 by omega]; rfl
        have H0 := Lib.hid (OwnI.lit0 w (Nat.le_refl w.heap.size))
        clear hw' hpr hok hq e e' h hp h4
        go_enter Try.func25, Try.ntmps25
        go_wp2_with fail
        refine (HW.out _).mono ?_
        rintro e w' ⟨rfl, rfl⟩
        go_wp2_with fail
        refine (HP.out _).mono ?_
        rintro e w' ⟨rfl, rfl⟩
        go_wp2
        go_loopw [4, 5] (fun o q wr => ∃ (x s : Nat) (A : Option Addr) (c : Nat), 1 ≤ x ∧ x ≤ n ∧ q = .int .i64 (x : Int) ∧ o = .slice A s c ∧ Hid ((putTo n (x - 1)).length = s) ∧ OwnI wr w.heap.size A c (putTo n (x - 1)) ∧ Below w.heap.size w wr) (fun _ q _ => n - (intOf q).toNat)
        case atStart => exact ⟨1, 0, _, _, by omega, by omega, rfl, rfl, rfl, H0.out, (Below.refl _ _).alloc (Nat.le_refl _) _⟩
        case round =>
          obtain ⟨x, s, A, c, hx1, hxn, rfl, rfl, hs, ho, hB⟩ := hrel
          have HO := Lib.hid ho
          have hz := hB.size
          clear ho
          by_cases hlt : x < n
          · have hpp1 : 0 ≤ (x : Int) * (x : Int) := by rw [← Int.natCast_mul]; omega
            have hpp2 : (x : Int) * (x : Int) ≤ 1000 := by
              rw [← Int.natCast_mul]
              have := Nat.mul_le_mul (show x ≤ 31 by omega) (show x ≤ 31 by omega)
              omega
            have hmod : (x : Int) * (x : Int) % (n : Int) = ((x * x % n : Nat) : Int) := by rw [← Int.natCast_mul, ← Int.natCast_emod]
            have hcall := l00Put_c wr A s c (putTo n (x - 1)) ((x : Int) * (x : Int) % (n : Int)) HO.out.rd hs.out (by have := putTo_len n (x - 1); have := hs.out; omega)
            have HC := Lib.hid hcall
            have HS := Lib.hid (show putTo n x = putL (putTo n (x - 1)) ((x : Int) * (x : Int) % (n : Int)) by
              rw [hmod]
              obtain ⟨y, rfl⟩ : ∃ y, x = y + 1 := ⟨x - 1, by omega⟩
              rfl)
            clear hcall hmod
            go_wp2_with fail
            refine (HC.out).mono ?_
            rintro e w2 ⟨⟨A2, n2, c2, rfl, hn2, ho2⟩, hb2⟩
            have HN2 := Lib.hid (show (putTo n (x + 1 - 1)).length = n2 by rw [Nat.add_sub_cancel, HS.out]; exact hn2)
            have HO2 := Lib.hid (show OwnI w2 w.heap.size A2 c2 (putTo n (x + 1 - 1)) by rw [Nat.add_sub_cancel, HS.out]; exact ho2.lower hz)
            have hB2 : Below w.heap.size w w2 := hB.trans (hb2.mono hz)
            clear hn2 ho2 hb2
            go_wp2
            go_roundw
            case rel => exact ⟨x + 1, n2, A2, c2, by omega, by omega, by go_num, rfl, HN2.out, HO2.out, hB2⟩
            case measure => simp [intOf]; omega
          · obtain rfl : x = n := by omega
            go_wp2
            go_ret2
            exact ⟨⟨A, s, c, rfl, hs.out, HO.out⟩, hB⟩
      · have e0 : okN n = false := by rw [← hok]; simp [h4]
        have e : okZ (n : Int) = false := by simp [okZ, e0]
        rw [show paleyL (n : Int) = [] by simp [paleyL, e], show paleyC (n : Int) = 2 by simp [paleyC, e]]
        have HP := Lib.hid hpr
        have H4 : ((n : Int) % 4 != 3) = true := by rw [bne_iff_ne]; omega
        clear hw' hpr hok hq e e0 h hp h4
        go_enter Try.func25, Try.ntmps25
        go_wp2_with fail
        refine (HW.out _).mono ?_
        rintro e w' ⟨rfl, rfl⟩
        go_wp2_with fail
        refine (HP.out _).mono ?_
        rintro e w' ⟨rfl, rfl⟩
        go_wp2
        go_ret2
        exact ⟨⟨none, 0, 0, rfl, rfl, OwnI.nil_ _ _⟩, Below.refl _ _⟩
  · have e : okZ p = false := by
      rw [Bool.eq_false_iff]
      intro he
      simp only [okZ, Bool.and_eq_true, decide_eq_true_eq] at he
      have := okN_le he.2
      omega
    rw [show paleyL p = [] by simp [paleyL, e], show paleyC p = 2 by simp [paleyC, e]]
    have hw' := in_c p 3 32
    rw [inB_false.2 h] at hw'
    have HW := Lib.hid hw'
    clear hw' h e
    go_enter Try.func25, Try.ntmps25
    go_wp2_with fail
    refine (HW.out _).mono ?_
    rintro e w' ⟨rfl, rfl⟩
    go_wp2
    go_ret2
    exact ⟨⟨none, 0, 0, rfl, rfl, OwnI.nil_ _ _⟩, Below.refl _ _⟩

set_option maxHeartbeats 1000000 in
theorem implPaleySet_c (w : World) (p : Int) (hp : -9223372036854775808 ≤ p ∧ p ≤ 9223372036854775807) :
    Calls Try.prog 26 #[.int .i64 p] w (PostSC w (paleyL p) (paleyC p)) := by
  by_cases h : 32 < p
  · have e : okZ p = false := by
      rw [Bool.eq_false_iff]
      intro he
      simp only [okZ, Bool.and_eq_true, decide_eq_true_eq] at he
      have := okN_le he.2
      omega
    rw [show paleyL p = [] by simp [paleyL, e], show paleyC p = 2 by simp [paleyC, e]]
    clear e
    go_enter Try.func26, Try.ntmps26
    go_wp2
    go_ret2
    exact ⟨⟨none, 0, 0, rfl, rfl, OwnI.nil_ _ _⟩, Below.refl _ _⟩
  · have hle : p ≤ 32 := by omega
    have hpr := fun W => implIsPrime_c W p
    rcases hq : primeI p with _ | _
    · have e : okZ p = false := by
        rw [Bool.eq_false_iff]
        intro he
        simp only [okZ, Bool.and_eq_true, decide_eq_true_eq] at he
        have h1 := ok_impl p.toNat (by omega)
        rw [show ((p.toNat : Nat) : Int) = p by omega, hq, he.2] at h1
        simp at h1
      rw [hq] at hpr
      rw [show paleyL p = [] by simp [paleyL, e], show paleyC p = 2 by simp [paleyC, e]]
      have HP := Lib.hid hpr
      clear hpr hq e h
      go_enter Try.func26, Try.ntmps26
      go_wp2_with fail
      refine (HP.out _).mono ?_
      rintro e w1 ⟨rfl, hb1⟩
      go_wp2
      go_ret2
      exact ⟨⟨none, 0, 0, rfl, rfl, OwnI.nil_ _ _⟩, hb1⟩
    · have hp1 : 1 ≤ p := by
        rcases Int.lt_or_le p 1 with hl | hl
        · have hz : factorsZ p = [] := by unfold factorsZ; rw [if_neg (by omega)]
          have := of_decide_eq_true hq
          rw [hz] at this
          simp at this
        · exact hl
      obtain ⟨n, rfl⟩ := Int.eq_ofNat_of_zero_le (show 0 ≤ p by omega)
      rw [hq] at hpr
      have hok := ok_impl n (by omega)
      rw [hq] at hok
      have HP := Lib.hid hpr
      by_cases h4 : n % 4 = 3
      · have e : okN n = true := by rw [← hok]; simp [h4]
        have e' : okZ (n : Int) = true := by simp [okZ, e]
        rw [show paleyL (n : Int) = sqsTo n (n - 1) by simp [paleyL, e'], show paleyC (n : Int) = 0 by simp [paleyC, e']]
        have H4 : ((n : Int) % 4 != 3) = false := by rw [show (n : Int) % 4 = 3 by omega]; rfl
        have hn1 : 1 ≤ n := by omega
        have hn2 : n ≤ 1000 := by omega
        clear hpr hok hq e e' h hp h4
        go_enter Try.func26, Try.ntmps26
        go_wp2_with fail
        refine (HP.out _).mono ?_
        rintro e w1 ⟨rfl, hb1⟩
        have hz1 := hb1.size
        go_wp2_with fail
        refine (SquaresMod_c n hn1 hn2 w1).mono ?_
        rintro e w2 ⟨⟨A2, n2, c2, rfl, hn2', ho2⟩, hb2⟩
        have HL := Lib.hid hn2'
        have HO := Lib.hid (ho2.lower hz1)
        have hB : Below w.heap.size w w2 := hb1.trans (hb2.mono hz1)
        clear hn2' ho2
        go_wp2
        go_ret2
        exact ⟨⟨A2, n2, c2, rfl, HL.out, HO.out⟩, hB⟩
      · have e0 : okN n = false := by rw [← hok]; simp [h4]
        have e : okZ (n : Int) = false := by simp [okZ, e0]
        rw [show paleyL (n : Int) = [] by simp [paleyL, e], show paleyC (n : Int) = 2 by simp [paleyC, e]]
        have H4 : ((n : Int) % 4 != 3) = true := by rw [bne_iff_ne]; omega
        clear hpr hok hq e e0 h hp h4
        go_enter Try.func26, Try.ntmps26
        go_wp2_with fail
        refine (HP.out _).mono ?_
        rintro e w1 ⟨rfl, hb1⟩
        go_wp2
        go_ret2
        exact ⟨⟨none, 0, 0, rfl, rfl, OwnI.nil_ _ _⟩, hb1⟩
end Go.Proofs.Ytjoihaghoahnlaa
