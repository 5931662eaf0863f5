/-
  Sets of residues: translate, multiply, gcd of the program; l13Move, l13Ask, l02Gcd of the reference; TranslateSet and MultiplySet of both. Conditions: those of each theorem.
-/
import Derived.Test.YtdcegepkgcflpaaSort
namespace Go.Proofs.Ytdcegepkgcflpaa
open Go.RowKit
set_option linter.unusedVariables false
set_option linter.unusedSimpArgs false

theorem tmod_nat (x y : Nat) : Int.tmod (x : Int) (y : Int) = ((x % y : Nat) : Int) := by
  rw [Int.tmod_eq_emod_of_nonneg (by omega)]
  rfl

/-! ### The sets moved -/
def mvF (N : Nat) (xs : List Int) (t b : Int) (k : Nat) : Int := (nth xs k * t + b).tmod (N : Int)
def mvL (N : Nat) (xs : List Int) (t b : Int) : List Int := putsTo (mvF N xs t b) xs.length

theorem set13_facts {N : Nat} {xs : List Int} (h : Set13 (N : Int) xs) : (1 ≤ N ∧ N ≤ 32) ∧ (∀ k, k < xs.length → 0 ≤ nth xs k ∧ nth xs k ≤ (N : Int) - 1) ∧ (∀ i j, i < j → j < xs.length → nth xs i < nth xs j) ∧ xs.length ≤ 32 := by
  have h1 := rise_len h.2 (by have := h.1; omega)
  refine ⟨⟨by have := h.1; omega, by have := h.1; omega⟩, fun k hk => (h.2 k hk).1, fun i j hij hj => h.2.lt j hj hij, by have := h.1; omega⟩

set_option maxHeartbeats 1000000 in
theorem l13Move_c (w : World) (N : Nat) (A : Option Addr) (n c : Nat) (xs : List Int) (hr : RdI w A c xs) (hn : xs.length = n) (hok : Set13 (N : Int) xs) (t b : Nat) (ht : t ≤ 32) (hb : b ≤ 32) :
    Calls Try.prog 33 #[.int .i64 (N : Int), .slice A n c, .int .i64 (t : Int), .int .i64 (b : Int)] w (PostS w (mvL N xs (t : Int) (b : Int))) := by
  obtain ⟨⟨hN1, hN2⟩, hbd, _, hl⟩ := set13_facts hok
  have H0 := Lib.hid (OwnI.lit0 w (Nat.le_refl w.heap.size))
  have HR := Lib.hid hr
  have HN := Lib.hid hn
  have HBd := Lib.hid hbd
  have hn32 : n ≤ 32 := by omega
  have hd2 : (N : Int) ≠ 0 := by omega
  have hd3 : ((N : Int) == 0) = false := by simp; omega
  obtain ⟨f, hf⟩ : ∃ f, f = mvF N xs (t : Int) (b : Int) := ⟨_, rfl⟩
  have HF := Lib.hid (fun k => show f k = (nth xs k * (t : Int) + (b : Int)).tmod (N : Int) by rw [hf]; rfl)
  rw [show mvL N xs (t : Int) (b : Int) = putsTo f n by unfold mvL; rw [hf, hn]]
  clear hr hn hbd hok hl hf
  go_enter Try.func33, Try.ntmps33
  go_wp2
  go_loopw [9, 10] (fun o i wr => ∃ (k m : Nat) (A' : Option Addr) (c' : Nat), k ≤ n ∧ i = .int .i64 k ∧ o = .slice A' m c' ∧ Hid ((putsTo f k).length = m) ∧ Hid (OwnI wr w.heap.size A' c' (putsTo f k)) ∧ Hid (Below w.heap.size w wr)) (fun _ i _ => n - (intOf i).toNat)
  case atStart => exact ⟨0, 0, _, _, Nat.zero_le _, rfl, rfl, rfl, H0.out, (Below.refl _ _).alloc (Nat.le_refl _) _⟩
  case round =>
    obtain ⟨k, m, A', c', hk, rfl, rfl, HL, HO, HB⟩ := hrel
    by_cases hlt : k < n
    · have hkx : k < xs.length := by rw [HN.out]; exact hlt
      obtain ⟨b1, off, e, hb1, hc⟩ := HR.out.at_ k hkx
      subst e
      have hcc := (HB.out.cell (p := ⟨b1, off + k, none⟩) hb1).trans hc
      obtain ⟨hu0, hu1⟩ := HBd.out k hkx
      have HFk := HF.out k
      obtain ⟨u, hu⟩ : ∃ u : Nat, nth xs k = (u : Int) := ⟨(nth xs k).toNat, by omega⟩
      rw [hu] at hcc hu1 HFk
      have hu32 : u ≤ 31 := by omega
      have hp31 : u * t ≤ 31 * 32 := Nat.mul_le_mul hu32 ht
      obtain ⟨p, hp⟩ : ∃ p, p = u * t := ⟨_, rfl⟩
      rw [← hp] at hp31
      have hw1 : IntKind.i64.wrap ((u : Int) * (t : Int)) = (p : Int) := by rw [hp, ← Int.natCast_mul]; exact IntWalk.i64_in _ (by omega)
      obtain ⟨y, hy⟩ : ∃ y, y = p + b := ⟨_, rfl⟩
      have hw2 : IntKind.i64.wrap ((p : Int) + (b : Int)) = (y : Int) := by rw [show (p : Int) + (b : Int) = (y : Int) by omega]; exact IntWalk.i64_in _ (by omega)
      obtain ⟨v, hv⟩ : ∃ v, v = y % N := ⟨_, rfl⟩
      have hmod : Int.tmod (y : Int) (N : Int) = (v : Int) := by rw [tmod_nat, hv]
      have hv1 : v < N := by rw [hv]; exact Nat.mod_lt _ (by omega)
      have HV := Lib.hid (show f k = (v : Int) by rw [HFk, ← hmod, hy, hp, Int.natCast_add, Int.natCast_mul])
      have hk0 : (0 : Int) ≤ (k : Int) := by omega
      have hk1 : (k : Int) < (n : Int) := by omega
      have hm32 : m ≤ 1048576 := by have := putsTo_len f k; rw [HL.out] at this; omega
      have HP := Lib.hid (l00Put_c wr A' m c' (putsTo f k) (v : Int) HO.out.rd HL.out hm32)
      clear hc hu hp hy hv HFk hu0 hu1
      go_wp2_with fail
      refine (HP.out).mono ?_
      rintro e w1 ⟨⟨A1, n1, c1, rfl, hn1, ho1⟩, hb2⟩
      have hz1 := HB.out.size
      have HB2 := Lib.hid (HB.out.trans (hb2.mono hz1))
      have HO2 := Lib.hid (show OwnI w1 w.heap.size A1 c1 (putsTo f (k + 1)) by rw [putsTo, HV.out]; exact ho1.lower hz1)
      have HL2 := Lib.hid (show (putsTo f (k + 1)).length = n1 by rw [putsTo, HV.out]; exact hn1)
      clear hn1 ho1 hb2 hcc hw1 hw2 hmod
      go_wp2
      go_roundw
      case rel => exact ⟨k + 1, n1, A1, c1, by omega, by go_num, rfl, HL2, HO2, HB2⟩
      case measure => simp [intOf]; omega
    · obtain rfl : k = n := by omega
      go_wp2
      go_ret
      exact ⟨⟨A', m, c', rfl, HL.out, HO.out⟩, HB.out⟩
end Go.Proofs.Ytdcegepkgcflpaa
