/-
  Remainders of polynomials: remainder of the program, l03Rest of the reference. Conditions: those of each theorem.
-/
import Derived.Test.YtbbaeopobnpnmaaFldA
import Derived.Test.YtbbaeopobnpnmaaClone
namespace Go.Proofs.Ytbbaeopobnpnmaa
open Go.RowKit
set_option linter.unusedVariables false
set_option linter.unusedSimpArgs false

theorem RdI.takeP {w : World} {A : Option Addr} {c : Nat} {xs : List Int} (h : RdI w A c xs) (m : Nat) : RdI w A c (xs.take m) :=
  ⟨by have := h.le; rw [List.length_take]; omega, h.cap, fun k hk => by
    rw [List.length_take] at hk
    obtain ⟨b, off, e, hb, hc⟩ := h.at_ k (by omega)
    exact ⟨b, off, e, hb, by rw [nthF_take (by omega)]; exact hc⟩⟩
/-- The call returned a slice that reads as xs. -/
def PostR (w : World) (xs : List Int) (e : Ending) (w' : World) : Prop :=
  (∃ A n c, e = .returned (.slice A n c) ∧ xs.length = n ∧ RdI w' A c xs) ∧ Below w.heap.size w w'
theorem rm_tmod {z : Int} {p : Nat} (hp : 0 < p) : ∃ u : Int, z.tmod (p : Int) = u ∧ -(p : Int) < u ∧ u < (p : Int) ∧ (u + (p : Int)).tmod (p : Int) = z % (p : Int) := by
  have h1 := Int.tmod_lt_of_pos z (show (0 : Int) < (p : Int) by omega)
  have h2 : -(p : Int) < z.tmod (p : Int) := by
    have := Int.lt_tmod_of_pos z (show (0 : Int) < (p : Int) by omega)
    omega
  refine ⟨_, rfl, h2, h1, ?_⟩
  rw [Int.tmod_eq_emod_of_nonneg (by omega), Int.tmod_def]
  rw [show z - (p : Int) * z.tdiv (p : Int) + (p : Int) = z + (p : Int) * (1 - z.tdiv (p : Int)) by rw [Int.mul_sub]; omega, Int.add_mul_emod_self_left]

set_option maxHeartbeats 8000000 in
set_option maxRecDepth 10000 in
theorem remainder_c (w : World) (A B : Option Addr) (n m c d : Nat) (xs ys : List Int) (p D : Nat) (hr : RdI w A c xs) (hn : xs.length = n) (hy : RdI w B d ys) (hm : ys.length = m) (hp : 2 ≤ p) (hp2 : p ≤ 64) (hI : InP p xs) (hJ : InP p ys)
    (hn1 : n ≤ 64) (hD1 : 1 ≤ D) (hDn : D ≤ n) (hm1 : m ≤ D + 1) (hm2 : D + 1 ≤ m) :
    Calls Try.prog 51 #[.slice A n c, .slice B m d, .int .i64 (p : Int)] w (PostR w (rem p ys D xs)) := by
  have HCl := Lib.hid (Clone_n w A n c xs hr hn (by omega))
  have HY := Lib.hid hy
  have HN := Lib.hid hn
  have HM := Lib.hid hm
  have HI := Lib.hid (fun s => rmO_in (p := p) (by omega) (by_ := ys) (d := D) hI s)
  have HJ := Lib.hid hJ
  have HL := Lib.hid (fun s => (rmO_len p ys D xs s).trans hn)
  have H0 := Lib.hid (show rmO p ys D xs 0 = xs from rfl)
  have HE := Lib.hid (show (rmO p ys D xs (n - D)).take D = rem p ys D xs by unfold rem; rw [hn])
  have HSt := Lib.hid (fun s => show rmO p ys D xs (s + 1) = rmI p ys (nth (rmO p ys D xs s) (n - 1 - s)) (n - 1 - s - D) (rmO p ys D xs s) (D + 1) by rw [rmO, hn])
  have HLE := Lib.hid (show (rem p ys D xs).length = D by rw [rem_len, hn]; omega)
  clear hr hn hy hm hI hJ
  have hwD : IntKind.i64.wrap ((m : Int) - 1) = (D : Int) := by rw [show (m : Int) - 1 = (D : Int) by omega]; exact IntWalk.i64_in _ (by omega)
  have hpz : ((p : Int) == 0) = false := by simp; omega
  have hpn : (p : Int) ≠ 0 := by omega
  go_enter Try.func51, Try.ntmps51
  go_wp2_with fail
  refine (HCl.out).mono ?_
  rintro e w1 ⟨⟨A1, n1, c1, rfl, hl1, ho1⟩, hb1⟩
  obtain rfl : n = n1 := HN.out.symm.trans hl1
  obtain ⟨g, rfl, hg1, hg2, _, _⟩ := ho1.at_ (k := 0) (by have := HN.out; omega)
  have HO1 := Lib.hid (show OwnI w1 w.heap.size (some ⟨g, 0, none⟩) c1 (rmO p ys D xs 0) from by rw [H0.out]; exact ho1)
  have HB1 := Lib.hid hb1
  have hc1 : n ≤ c1 := by have := ho1.rd.le; have := HN.out; omega
  clear hl1 ho1 hb1
  go_wp2
  go_loopw [9] (fun v wr => ∃ (s : Nat) (z : Int), s ≤ n - D ∧ z = (n : Int) - 1 - (s : Int) ∧ v = .int .i64 z ∧ Hid (OwnI wr w.heap.size (some ⟨g, 0, none⟩) c1 (rmO p ys D xs s)) ∧ Hid (Below w.heap.size w wr)) (fun v _ => (intOf v + 1).toNat)
  case atStart => exact ⟨0, (n : Int) - 1, by omega, by omega, rfl, HO1, HB1⟩
  case round =>
    obtain ⟨s, z, hs, hz, rfl, HO, HB⟩ := hrel
    by_cases hsl : s < n - D
    · obtain ⟨k, hk⟩ : ∃ k, k = n - 1 - s := ⟨_, rfl⟩
      obtain rfl : z = (k : Int) := by omega
      obtain ⟨b, hb⟩ : ∃ b, b = k - D := ⟨_, rfl⟩
      have hSt := HSt.out s
      rw [← hk, ← hb] at hSt
      have hkn : k < n := by omega
      have hk5 : k + s + 1 ≤ n := by omega
      have hk6 : n ≤ k + s + 1 := by omega
      have hbk : b + D ≤ k := by omega
      have hkD : (D : Int) ≤ (k : Int) := by omega
      have hk0 : (0 : Int) ≤ (k : Int) := by omega
      have hk1 : (k : Int) < (n : Int) := by omega
      have hIs := HI.out s
      have hLs := HL.out s
      obtain ⟨r, hr⟩ : ∃ r, r = rmO p ys D xs s := ⟨_, rfl⟩
      rw [← hr] at HO hSt hIs hLs
      obtain ⟨f, hf⟩ : ∃ f : Nat, nth r k = (f : Int) := ⟨(nth r k).toNat, by have := hIs k (by omega); omega⟩
      have hfp : f < p := by have := hIs k (by omega); omega
      obtain ⟨g1, eg1, _, _, hcf, _⟩ := HO.out.at_ (k := k) (by omega)
      injection eg1 with eg1
      injection eg1 with eg1
      subst eg1
      rw [hf] at hcf hSt
      have hwb : IntKind.i64.wrap ((k : Int) - (D : Int)) = (b : Int) := by rw [show (k : Int) - (D : Int) = (b : Int) by omega]; exact IntWalk.i64_in _ (by omega)
      have HSt2 := Lib.hid hSt
      have HIn := Lib.hid (fun j => rmI_in (p := p) (by omega) (by_ := ys) (f := (f : Int)) (b := b) hIs j)
      have HLn := Lib.hid (fun j => (rmI_len p ys (f : Int) b r j).trans hLs)
      have HO0 := Lib.hid (show OwnI wr w.heap.size (some ⟨g, 0, none⟩) c1 (rmI p ys (f : Int) b r 0) from HO.out)
      clear hSt hIs hLs hr hf hb hk hz
      obtain ⟨wo, rfl⟩ : ∃ wo, wo = wr := ⟨_, rfl⟩
      go_wp2
      clear hcf
      go_loopw [33] (fun v wr => ∃ j : Nat, j ≤ m ∧ v = .int .i64 j ∧ Hid (OwnI wr w.heap.size (some ⟨g, 0, none⟩) c1 (rmI p ys (f : Int) b r j)) ∧ Hid (Below w.heap.size w wr)) (fun v _ => m - (intOf v).toNat)
      case atStart => exact ⟨0, Nat.zero_le _, rfl, HO0, HB⟩
      case round =>
        obtain ⟨j, hj, rfl, HO3, HB3⟩ := hrel
        by_cases hjm : j < m
        · have hjy : j < ys.length := by rw [HM.out]; exact hjm
          obtain ⟨b2, o2, e2, hb2, hd2⟩ := HY.out.at_ j hjy
          have hcy := (HB3.out.cell (p := ⟨b2, o2 + j, none⟩) hb2).trans hd2
          subst e2
          obtain ⟨y, hyv⟩ : ∃ y : Nat, nth ys j = (y : Int) := ⟨(nth ys j).toNat, by have := HJ.out j hjy; omega⟩
          have hyp : y < p := by have := HJ.out j hjy; omega
          rw [hyv] at hcy
          have htn : b + j < n := by omega
          obtain ⟨x, hxv⟩ : ∃ x : Nat, nth (rmI p ys (f : Int) b r j) (b + j) = (x : Int) := ⟨(nth (rmI p ys (f : Int) b r j) (b + j)).toNat, by have := HIn.out j (b + j) (by rw [HLn.out]; exact htn); omega⟩
          have hxp : x < p := by have := HIn.out j (b + j) (by rw [HLn.out]; exact htn); omega
          obtain ⟨g1, eg1, _, _, hcx, hfx⟩ := HO3.out.at_ (k := b + j) (by rw [HLn.out]; exact htn)
          injection eg1 with eg1
          injection eg1 with eg1
          subst eg1
          rw [hxv] at hcx
          obtain ⟨q, hq⟩ : ∃ q, q = f * y := ⟨_, rfl⟩
          have hq2 : q ≤ 64 * 64 := by rw [hq]; exact Nat.mul_le_mul (by omega) (by omega)
          have hmi := mod_in (p := p) (by omega) ((x : Int) - (q : Int))
          obtain ⟨v, hv⟩ : ∃ v : Nat, ((x : Int) - (q : Int)) % (p : Int) = (v : Int) := ⟨(((x : Int) - (q : Int)) % (p : Int)).toNat, by omega⟩
          have hvp : v < p := by omega
          have hst := HO3.out.stored (b + j) (v : Int)
          have HO4 := Lib.hid (show OwnI (wr.setCell ⟨g, b + j, none⟩ (.int .i64 (v : Int))) w.heap.size (some ⟨g, 0, none⟩) c1 (rmI p ys (f : Int) b r (j + 1)) from by
            rw [rmI, hxv, hyv, ← Int.natCast_mul, ← hq, hv]; exact hst)
          have HB4 := Lib.hid (HB3.out.setCell (p := ⟨g, b + j, none⟩) hg1 (.int .i64 (v : Int)))
          have hj0 : (0 : Int) ≤ (j : Int) := by omega
          have hj1 : (j : Int) < (m : Int) := by omega
          have ht0 : (0 : Int) ≤ (b : Int) + (j : Int) := by omega
          have ht1 : (b : Int) + (j : Int) < (n : Int) := by omega
          clear hd2 hyv hxv hst hmi hb2
          have hwm : IntKind.i64.wrap ((f : Int) * (y : Int)) = (q : Int) := by rw [← Int.natCast_mul, ← hq]; exact IntWalk.i64_in _ (by omega)
          obtain ⟨u, hu1, hu2, hu3, hu4⟩ := rm_tmod (z := (x : Int) - (q : Int)) (p := p) (by omega)
          have hu5 : (u + (p : Int)).tmod (p : Int) = (v : Int) := by rw [hu4]; exact hv
          have hu6 : (u + (p : Int)) % (p : Int) = (v : Int) := by rw [← hu5]; exact (Int.tmod_eq_emod_of_nonneg (by omega)).symm
          clear hq hu4 hv
          go_wp2
          clear hu1 hu5 hu6
          go_roundw
          case rel => exact ⟨j + 1, by omega, by go_num, HO4, HB4⟩
          case measure => simp [intOf] <;> omega
        · obtain rfl : j = m := by omega
          have HO4 := Lib.hid (show OwnI wr w.heap.size (some ⟨g, 0, none⟩) c1 (rmO p ys D xs (s + 1)) from by rw [HSt2.out, show D + 1 = j by omega]; exact HO3.out)
          go_wp2
          go_roundw
          case rel => exact ⟨s + 1, (k : Int) - 1, by omega, by omega, rfl, HO4, HB3⟩
          case measure => simp [intOf] <;> omega
    · obtain rfl : s = n - D := by omega
      have hzD : z < (D : Int) := by omega
      have HRf := Lib.hid (show RdI wr (some ⟨g, 0, none⟩) c1 (rem p ys D xs) from by rw [← HE.out]; exact HO.out.rd.takeP D)
      have hDn2 : (D : Int) ≤ (n : Int) := by omega
      have hDc : D ≤ c1 := by omega
      have hz2 : -1 ≤ z := by omega
      clear hz
      go_wp2
      go_ret
      exact ⟨⟨_, (min (D : Int) (n : Int)).toNat, c1, rfl, by rw [HLE.out]; omega, HRf.out⟩, HB.out⟩

set_option maxHeartbeats 8000000 in
set_option maxRecDepth 10000 in
theorem l03Rest_c (w : World) (A B : Option Addr) (n m c d : Nat) (xs ys : List Int) (p D : Nat) (hr : RdI w A c xs) (hn : xs.length = n) (hy : RdI w B d ys) (hm : ys.length = m) (hp : 2 ≤ p) (hp2 : p ≤ 64) (hI : InP p xs) (hJ : InP p ys)
    (hn1 : n ≤ 64) (hD1 : 1 ≤ D) (hDn : D ≤ n) (hm1 : m ≤ D + 1) (hm2 : D + 1 ≤ m) :
    Calls Try.prog 69 #[.slice A n c, .slice B m d, .int .i64 (p : Int)] w (PostR w (rem p ys D xs)) := by
  have HCl := Lib.hid (l00Own_c w A n c xs hr hn (fun e => by obtain ⟨_, _, e', _⟩ := hr.at_ 0 (by omega); rw [e] at e'; cases e') (by omega))
  have HY := Lib.hid hy
  have HN := Lib.hid hn
  have HM := Lib.hid hm
  have HI := Lib.hid (fun s => rmO_in (p := p) (by omega) (by_ := ys) (d := D) hI s)
  have HJ := Lib.hid hJ
  have HL := Lib.hid (fun s => (rmO_len p ys D xs s).trans hn)
  have H0 := Lib.hid (show rmO p ys D xs 0 = xs from rfl)
  have HE := Lib.hid (show (rmO p ys D xs (n - D)).take D = rem p ys D xs by unfold rem; rw [hn])
  have HSt := Lib.hid (fun s => show rmO p ys D xs (s + 1) = rmI p ys (nth (rmO p ys D xs s) (n - 1 - s)) (n - 1 - s - D) (rmO p ys D xs s) (D + 1) by rw [rmO, hn])
  have HLE := Lib.hid (show (rem p ys D xs).length = D by rw [rem_len, hn]; omega)
  clear hr hn hy hm hI hJ
  have hwD : IntKind.i64.wrap ((m : Int) - 1) = (D : Int) := by rw [show (m : Int) - 1 = (D : Int) by omega]; exact IntWalk.i64_in _ (by omega)
  have hpz : ((p : Int) == 0) = false := by simp; omega
  have hpn : (p : Int) ≠ 0 := by omega
  have hpn2 : ¬ p = 0 := by omega
  go_enter Try.func69, Try.ntmps69
  go_wp2_with fail
  refine (HCl.out).mono ?_
  rintro e w1 ⟨⟨A1, n1, c1, rfl, hl1, ho1⟩, hb1⟩
  obtain rfl : n = n1 := HN.out.symm.trans hl1
  obtain ⟨g, rfl, hg1, hg2, _, _⟩ := ho1.at_ (k := 0) (by have := HN.out; omega)
  have HO1 := Lib.hid (show OwnI w1 w.heap.size (some ⟨g, 0, none⟩) c1 (rmO p ys D xs 0) from by rw [H0.out]; exact ho1)
  have HB1 := Lib.hid hb1
  have hc1 : n ≤ c1 := by have := ho1.rd.le; have := HN.out; omega
  clear hl1 ho1 hb1
  go_wp2
  go_loopw [9] (fun v wr => ∃ (s : Nat) (z : Int), s ≤ n - D ∧ z = (n : Int) - 1 - (s : Int) ∧ v = .int .i64 z ∧ Hid (OwnI wr w.heap.size (some ⟨g, 0, none⟩) c1 (rmO p ys D xs s)) ∧ Hid (Below w.heap.size w wr)) (fun v _ => (intOf v + 1).toNat)
  case atStart => exact ⟨0, (n : Int) - 1, by omega, by omega, rfl, HO1, HB1⟩
  case round =>
    obtain ⟨s, z, hs, hz, rfl, HO, HB⟩ := hrel
    by_cases hsl : s < n - D
    · obtain ⟨k, hk⟩ : ∃ k, k = n - 1 - s := ⟨_, rfl⟩
      obtain rfl : z = (k : Int) := by omega
      obtain ⟨b, hb⟩ : ∃ b, b = k - D := ⟨_, rfl⟩
      have hSt := HSt.out s
      rw [← hk, ← hb] at hSt
      have hkn : k < n := by omega
      have hk5 : k + s + 1 ≤ n := by omega
      have hk6 : n ≤ k + s + 1 := by omega
      have hbk : b + D ≤ k := by omega
      have hkD : (D : Int) ≤ (k : Int) := by omega
      have hk0 : (0 : Int) ≤ (k : Int) := by omega
      have hk1 : (k : Int) < (n : Int) := by omega
      have hIs := HI.out s
      have hLs := HL.out s
      obtain ⟨r, hr⟩ : ∃ r, r = rmO p ys D xs s := ⟨_, rfl⟩
      rw [← hr] at HO hSt hIs hLs
      obtain ⟨f, hf⟩ : ∃ f : Nat, nth r k = (f : Int) := ⟨(nth r k).toNat, by have := hIs k (by omega); omega⟩
      have hfp : f < p := by have := hIs k (by omega); omega
      obtain ⟨g1, eg1, _, _, hcf, _⟩ := HO.out.at_ (k := k) (by omega)
      injection eg1 with eg1
      injection eg1 with eg1
      subst eg1
      rw [hf] at hcf hSt
      obtain ⟨b1, hb1⟩ : ∃ b1 : Int, b1 = (b : Int) - 1 := ⟨_, rfl⟩
      have hwb : IntKind.i64.wrap ((k : Int) - (m : Int)) = b1 := by rw [show (k : Int) - (m : Int) = b1 by omega]; exact IntWalk.i64_in _ (by omega)
      have hwb2 : IntKind.i64.wrap (b1 + 1) = (b : Int) := by rw [show b1 + 1 = (b : Int) by omega]; exact IntWalk.i64_in _ (by omega)
      have HSt2 := Lib.hid hSt
      have HIn := Lib.hid (fun j => rmI_in (p := p) (by omega) (by_ := ys) (f := (f : Int)) (b := b) hIs j)
      have HLn := Lib.hid (fun j => (rmI_len p ys (f : Int) b r j).trans hLs)
      have HO0 := Lib.hid (show OwnI wr w.heap.size (some ⟨g, 0, none⟩) c1 (rmI p ys (f : Int) b r 0) from HO.out)
      clear hSt hIs hLs hr hf hb hk hz hb1
      obtain ⟨wo, rfl⟩ : ∃ wo, wo = wr := ⟨_, rfl⟩
      go_wp2
      clear hcf
      go_loopw [11] (fun v wr => ∃ j : Nat, j ≤ m ∧ v = .int .i64 j ∧ Hid (OwnI wr w.heap.size (some ⟨g, 0, none⟩) c1 (rmI p ys (f : Int) b r j)) ∧ Hid (Below w.heap.size w wr)) (fun v _ => m - (intOf v).toNat)
      case atStart => exact ⟨0, Nat.zero_le _, rfl, HO0, HB⟩
      case round =>
        obtain ⟨j, hj, rfl, HO3, HB3⟩ := hrel
        by_cases hjm : j < m
        · have hjy : j < ys.length := by rw [HM.out]; exact hjm
          obtain ⟨b2, o2, e2, hb2, hd2⟩ := HY.out.at_ j hjy
          have hcy := (HB3.out.cell (p := ⟨b2, o2 + j, none⟩) hb2).trans hd2
          subst e2
          obtain ⟨y, hyv⟩ : ∃ y : Nat, nth ys j = (y : Int) := ⟨(nth ys j).toNat, by have := HJ.out j hjy; omega⟩
          have hyp : y < p := by have := HJ.out j hjy; omega
          rw [hyv] at hcy
          have htn : b + j < n := by omega
          obtain ⟨x, hxv⟩ : ∃ x : Nat, nth (rmI p ys (f : Int) b r j) (b + j) = (x : Int) := ⟨(nth (rmI p ys (f : Int) b r j) (b + j)).toNat, by have := HIn.out j (b + j) (by rw [HLn.out]; exact htn); omega⟩
          have hxp : x < p := by have := HIn.out j (b + j) (by rw [HLn.out]; exact htn); omega
          obtain ⟨g1, eg1, _, _, hcx, hfx⟩ := HO3.out.at_ (k := b + j) (by rw [HLn.out]; exact htn)
          injection eg1 with eg1
          injection eg1 with eg1
          subst eg1
          rw [hxv] at hcx
          obtain ⟨q, hq⟩ : ∃ q, q = f * y := ⟨_, rfl⟩
          have hq2 : q ≤ 64 * 64 := by rw [hq]; exact Nat.mul_le_mul (by omega) (by omega)
          have hmi := mod_in (p := p) (by omega) ((x : Int) - (q : Int))
          obtain ⟨v, hv⟩ : ∃ v : Nat, ((x : Int) - (q : Int)) % (p : Int) = (v : Int) := ⟨(((x : Int) - (q : Int)) % (p : Int)).toNat, by omega⟩
          have hvp : v < p := by omega
          have hst := HO3.out.stored (b + j) (v : Int)
          have HO4 := Lib.hid (show OwnI (wr.setCell ⟨g, b + j, none⟩ (.int .i64 (v : Int))) w.heap.size (some ⟨g, 0, none⟩) c1 (rmI p ys (f : Int) b r (j + 1)) from by
            rw [rmI, hxv, hyv, ← Int.natCast_mul, ← hq, hv]; exact hst)
          have HB4 := Lib.hid (HB3.out.setCell (p := ⟨g, b + j, none⟩) hg1 (.int .i64 (v : Int)))
          have hj0 : (0 : Int) ≤ (j : Int) := by omega
          have hj1 : (j : Int) < (m : Int) := by omega
          have ht0 : (0 : Int) ≤ (b : Int) + (j : Int) := by omega
          have ht1 : (b : Int) + (j : Int) < (n : Int) := by omega
          clear hd2 hyv hxv hst hmi hb2
          obtain ⟨f2, hf2⟩ : ∃ f2 : Int, f2 = (p : Int) - (f : Int) := ⟨_, rfl⟩
          obtain ⟨q2, hqq⟩ : ∃ q2 : Int, q2 = f2 * (y : Int) := ⟨_, rfl⟩
          have hq3 : q2 = (p : Int) * (y : Int) - (q : Int) := by rw [hqq, hf2, Int.sub_mul, hq, Int.natCast_mul]
          have hpy : (0 : Int) ≤ (p : Int) * (y : Int) ∧ (p : Int) * (y : Int) ≤ 64 * 64 := by rw [← Int.natCast_mul]; have : p * y ≤ 64 * 64 := Nat.mul_le_mul hp2 (by omega); omega
          have hq0 : 0 ≤ q2 := by rw [hqq, hf2]; exact Int.mul_nonneg (by omega) (by omega)
          have hv2 : ((x : Int) + q2) % (p : Int) = (v : Int) := by rw [← hv, hq3, show (x : Int) + ((p : Int) * (y : Int) - (q : Int)) = (x : Int) - (q : Int) + (p : Int) * (y : Int) by omega, Int.add_mul_emod_self_left]
          have hv3 : ((x : Int) + q2).tmod (p : Int) = (v : Int) := by rw [Int.tmod_eq_emod_of_nonneg (by omega)]; exact hv2
          have hw1 : IntKind.i64.wrap ((p : Int) - (f : Int)) = f2 := by rw [← hf2]; exact IntWalk.i64_in _ (by omega)
          have hw2 : IntKind.i64.wrap (f2 * (y : Int)) = q2 := by rw [← hqq]; exact IntWalk.i64_in _ (by omega)
          have hw3 : IntKind.i64.wrap ((x : Int) + q2) = (x : Int) + q2 := IntWalk.i64_in _ (by omega)
          clear hq hf2 hqq hq3 hpy hv
          go_wp2
          go_region
          all_goals (clear hw1 hw2 hw3 hv2 hv3)
          all_goals go_wp2
          all_goals go_roundw
          case rel => exact ⟨j + 1, by omega, by go_num, HO4, Lib.hid HB4.out.drew⟩
          case measure => simp [intOf] <;> omega
        · obtain rfl : j = m := by omega
          have HO4 := Lib.hid (show OwnI wr w.heap.size (some ⟨g, 0, none⟩) c1 (rmO p ys D xs (s + 1)) from by rw [HSt2.out, show D + 1 = j by omega]; exact HO3.out)
          go_wp2
          go_roundw
          case rel => exact ⟨s + 1, (k : Int) - 1, by omega, by omega, rfl, HO4, HB3⟩
          case measure => simp [intOf] <;> omega
    · obtain rfl : s = n - D := by omega
      have hzD : z < (D : Int) := by omega
      have HRf := Lib.hid (HO.out.rd)
      have HT0 := Lib.hid (show (rmO p ys D xs (n - D)).take n = rmO p ys D xs (n - D) from List.take_of_length_le (by rw [HL.out]; exact Nat.le_refl _))
      have hz2 : -1 ≤ z := by omega
      have HBf := HB
      obtain ⟨wo, rfl⟩ : ∃ wo, wo = wr := ⟨_, rfl⟩
      clear hz
      go_wp2
      go_loop [7] (fun v => ∃ q : Nat, D ≤ q ∧ q ≤ n ∧ v = .slice (some ⟨g, 0, none⟩) q c1) (fun v => (match v with | .slice _ q _ => q | _ => 0))
      case atStart => exact ⟨n, hDn, Nat.le_refl _, rfl⟩
      case round =>
        obtain ⟨q, hq1, hq2, rfl⟩ := hrel
        by_cases hqm : q = D
        · subst hqm
          have hqm : ¬ (m : Int) ≤ (q : Int) := by omega
          have HRg := Lib.hid (show RdI wo (some ⟨g, 0, none⟩) c1 (rem p ys q xs) from by rw [← HE.out]; exact HRf.out.takeP q)
          go_wp2
          go_ret
          exact ⟨⟨_, q, c1, rfl, HLE.out, HRg.out⟩, HBf.out⟩
        · have hqm : (m : Int) ≤ (q : Int) := by omega
          obtain ⟨q1, rfl⟩ : ∃ q1, q = q1 + 1 := ⟨q - 1, by omega⟩
          have hwq : IntKind.i64.wrap (((q1 + 1 : Nat) : Int) - 1) = (q1 : Int) := by rw [show ((q1 + 1 : Nat) : Int) - 1 = (q1 : Int) by omega]; exact IntWalk.i64_in _ (by omega)
          have hqc : q1 ≤ c1 := by omega
          go_wp2
          go_round
          case rel => exact ⟨q1, by omega, by omega, rfl⟩
          case measure => simp
end Go.Proofs.Ytbbaeopobnpnmaa
