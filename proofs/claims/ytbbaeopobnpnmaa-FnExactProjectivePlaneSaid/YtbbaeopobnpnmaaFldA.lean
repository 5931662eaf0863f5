/-
  Digits, numbers and powers: digitsOf, numberOf, powerUpTo of the program; l03Digits, l03Number, l03Power of the reference. Conditions: those of each theorem.
-/
import Derived.Test.YtbbaeopobnpnmaaFldP
import Derived.Test.YtbbaeopobnpnmaaMat
namespace Go.Proofs.Ytbbaeopobnpnmaa
open Go.RowKit
set_option linter.unusedVariables false
set_option linter.unusedSimpArgs false

/-- The digits as the program fills them: j are there. -/
def digT (p a k j : Nat) : List Int := digL p a j ++ List.replicate (k - j) 0
theorem digT_zero (p a k : Nat) : digT p a k 0 = List.replicate k 0 := by simp [digT, digL]
theorem digT_all (p a k : Nat) : digT p a k k = digL p a k := by simp [digT]
theorem digT_len {p a k j : Nat} (h : j ≤ k) : (digT p a k j).length = k := by unfold digT; rw [List.length_append, digL_len, List.length_replicate]; omega
theorem digT_put {p a k j : Nat} (h : j < k) : (digT p a k j).set j (dg p a j) = digT p a k (j + 1) := by
  unfold digT
  rw [List.set_append_right _ _ (by rw [digL_len]; omega), digL_len, Nat.sub_self, digL_succ, show k - j = (k - (j + 1)) + 1 by omega, List.replicate_succ, List.set_cons_zero]
  simp

theorem tmod_nn (a b : Nat) : (a : Int).tmod (b : Int) = ((a % b : Nat) : Int) := by rw [Int.natCast_emod]; exact Int.tmod_eq_emod_of_nonneg (by omega)
theorem tdiv_nn (a b : Nat) : (a : Int).tdiv (b : Int) = ((a / b : Nat) : Int) := by rw [Int.natCast_ediv]; exact Int.tdiv_eq_ediv_of_nonneg (by omega)

set_option maxHeartbeats 4000000 in
theorem digitsOf_c (w : World) (a p k : Nat) (ha : a ≤ 1000000) (hp : 2 ≤ p) (hp2 : p ≤ 64) (hk : k ≤ 64) :
    Calls Try.prog 42 #[.int .i64 (a : Int), .int .i64 (p : Int), .int .i64 (k : Int)] w (PostS w (digL p a k)) := by
  have hmk := fun W : World => run_make_row' (P := Try.prog) 37 2 (.int .i64 0) 8 Try.underlying37 infoI rfl .i64 .i64 k (by omega) (by omega) W
  have HM0 := Lib.hid (OwnI.made w k (by unfold maxLen; omega) (Nat.le_refl w.heap.size))
  have HMb := Lib.hid ((Below.refl w.heap.size w).alloc (Nat.le_refl _) (.cells (madeCells #[.int .i64 0] k) 2))
  obtain ⟨G, hG⟩ : ∃ G, G = w.heap.size := ⟨_, rfl⟩
  go_enter Try.func42, Try.ntmps42
  go_wp2
  rw [← hG] at HM0 HMb ⊢
  generalize (w.alloc (.cells (madeCells #[.int .i64 0] k) 2)) = w3 at *
  have HG := Lib.hid hG
  have HD0 := Lib.hid (show OwnI w3 G (some ⟨G, 0, none⟩) k (digT p a k 0) from by rw [digT_zero]; exact HM0.out)
  clear hmk hG
  go_loopw [0, 13] (fun u v wr => ∃ j : Nat, j ≤ k ∧ v = .int .i64 j ∧ u = .int .i64 ((dv p a j : Nat) : Int) ∧ Hid (OwnI wr G (some ⟨G, 0, none⟩) k (digT p a k j)) ∧ Hid (Below G w wr)) (fun _ v _ => k - (intOf v).toNat)
  case atStart => exact ⟨0, Nat.zero_le _, rfl, rfl, HD0, HMb⟩
  case round =>
    obtain ⟨j, hj, rfl, rfl, HO, HB⟩ := hrel
    by_cases hjk : j < k
    · obtain ⟨d, hd⟩ : ∃ d, d = dv p a j := ⟨_, rfl⟩
      have hda : d ≤ a := by rw [hd]; exact dv_le p a j
      obtain ⟨r, hr⟩ : ∃ r, r = d % p := ⟨_, rfl⟩
      obtain ⟨q, hq⟩ : ∃ q, q = d / p := ⟨_, rfl⟩
      have hrp : r < p := by rw [hr]; exact Nat.mod_lt _ (by omega)
      have hqd : q ≤ d := by rw [hq]; exact Nat.div_le_self _ _
      have HQ := Lib.hid (show dv p a (j + 1) = q by rw [hq, hd]; rfl)
      have HR := Lib.hid (show dg p a j = (r : Int) by rw [hr, hd]; rfl)
      have hr1 : (d : Int).tmod (p : Int) = (r : Int) := by rw [hr]; exact tmod_nn d p
      have hr2 : (d : Int) % (p : Int) = (r : Int) := by rw [hr]; exact (Int.natCast_emod d p).symm
      have hq1 : (d : Int).tdiv (p : Int) = (q : Int) := by rw [hq]; exact tdiv_nn d p
      have hq2 : (d : Int) / (p : Int) = (q : Int) := by rw [hq]; exact (Int.natCast_ediv d p).symm
      rw [← hd]
      clear hd hr hq
      have hpz : ((p : Int) == 0) = false := by simp; omega
      have hpn : (p : Int) ≠ 0 := by omega
      have hj0 : (0 : Int) ≤ (j : Int) := by omega
      have hj1 : (j : Int) < (k : Int) := by omega
      obtain ⟨g1, eg1, _, _, hcx, hfx⟩ := HO.out.at_ (k := j) (by rw [digT_len hj]; exact hjk)
      injection eg1 with eg1
      injection eg1 with eg1
      subst eg1
      have hst := HO.out.stored j (r : Int)
      rw [← HR.out, digT_put hjk, HR.out] at hst
      have HO6 := Lib.hid hst
      have HB6 := Lib.hid (HB.out.setCell (p := ⟨G, j, none⟩) (Nat.le_refl _) (.int .i64 (r : Int)))
      clear hst
      go_wp2
      go_roundw
      case rel => exact ⟨j + 1, by omega, by go_num, by rw [HQ.out], HO6, HB6⟩
      case measure => simp [intOf]; omega
    · obtain rfl : j = k := by omega
      have HOf := Lib.hid (show OwnI wr w.heap.size (some ⟨G, 0, none⟩) j (digL p a j) from by have := HO.out.lower (lo' := w.heap.size) (by rw [HG.out]; exact Nat.le_refl _); rwa [digT_all] at this)
      have HLf := Lib.hid (digL_len p a j)
      have HBw := Lib.hid (show Below w.heap.size w wr from by rw [← HG.out]; exact HB.out)
      go_wp2
      go_ret
      exact ⟨⟨_, j, j, rfl, HLf.out, HOf.out⟩, HBw.out⟩

set_option maxHeartbeats 4000000 in
theorem l03Digits_c (w : World) (a p k : Nat) (ha : a ≤ 1000000) (hp : 2 ≤ p) (hp2 : p ≤ 64) (hk : k ≤ 64) :
    Calls Try.prog 56 #[.int .i64 (a : Int), .int .i64 (p : Int), .int .i64 (k : Int)] w (PostS w (digL p a k)) := by
  have HI0 := Lib.hid (OwnI.lit0 w (Nat.le_refl w.heap.size))
  have HIb := Lib.hid ((Below.refl w.heap.size w).alloc (Nat.le_refl _) (.cells #[] 2))
  go_enter Try.func56, Try.ntmps56
  go_wp2
  go_loopw [0, 2, 7] (fun u v o wr => ∃ (j m : Nat) (A' : Option Addr) (c' : Nat), j + m = k ∧ v = .int .i64 m ∧ u = .int .i64 ((dv p a j : Nat) : Int) ∧ o = .slice A' j c' ∧ Hid (OwnI wr w.heap.size A' c' (digL p a j)) ∧ Hid (Below w.heap.size w wr)) (fun _ v _ _ => (intOf v).toNat)
  case atStart => exact ⟨0, k, _, _, by omega, rfl, rfl, rfl, HI0, HIb⟩
  case round =>
    obtain ⟨j, m, A', c', hjm, rfl, rfl, rfl, HO, HB⟩ := hrel
    by_cases hm : 0 < m
    · obtain ⟨d, hd⟩ : ∃ d, d = dv p a j := ⟨_, rfl⟩
      have hda : d ≤ a := by rw [hd]; exact dv_le p a j
      obtain ⟨r, hr⟩ : ∃ r, r = d % p := ⟨_, rfl⟩
      obtain ⟨q, hq⟩ : ∃ q, q = d / p := ⟨_, rfl⟩
      have hrp : r < p := by rw [hr]; exact Nat.mod_lt _ (by omega)
      have hqd : q ≤ d := by rw [hq]; exact Nat.div_le_self _ _
      have HQ := Lib.hid (show dv p a (j + 1) = q by rw [hq, hd]; rfl)
      have HR := Lib.hid (show digL p a j ++ [(r : Int)] = digL p a (j + 1) by rw [digL_succ, hr, hd]; rfl)
      have hr1 : (d : Int).tmod (p : Int) = (r : Int) := by rw [hr]; exact tmod_nn d p
      have hr2 : (d : Int) % (p : Int) = (r : Int) := by rw [hr]; exact (Int.natCast_emod d p).symm
      have hq1 : (d : Int).tdiv (p : Int) = (q : Int) := by rw [hq]; exact tdiv_nn d p
      have hq2 : (d : Int) / (p : Int) = (q : Int) := by rw [hq]; exact (Int.natCast_ediv d p).symm
      rw [← hd]
      clear hd hr hq
      have hpz : ((p : Int) == 0) = false := by simp; omega
      have hpn : (p : Int) ≠ 0 := by omega
      have hm0 : (0 : Int) < (m : Int) := by omega
      obtain ⟨m1, rfl⟩ : ∃ m1, m = m1 + 1 := ⟨m - 1, by omega⟩
      have HLx := Lib.hid (digL_len p a j)
      have hsz := HB.out.size
      go_wp2_with (at_builtin; refine wpI_append rfl _ _ rfl w.heap.size _ _ _ (digL p a j) ((r : Int)) wr.heap.size rfl rfl HLx.out (HO.out.alloc (.cells #[.int .i64 ((r : Int))] 2)) (World.cell?_alloc_at _ _ _ _ rfl) (by omega) (by simp; omega) ?_; intro A3 c3 w3 ho3 hg3 ha3)
      have hB3 : Below w.heap.size w w3 := (HB.out.alloc HB.out.size (.cells #[.int .i64 ((r : Int))] 2)).trans (below_blk (HO.out.alloc (.cells #[.int .i64 ((r : Int))] 2)) hg3 (Nat.le_refl _) (by simp; omega))
      have HO3 := Lib.hid ho3
      have HB3 := Lib.hid hB3
      clear ho3 hg3 ha3 hB3
      have HO6 := Lib.hid (show OwnI w3 w.heap.size A3 c3 (digL p a (j + 1)) from by rw [← HR.out]; exact HO3.out)
      go_wp2
      go_roundw
      case rel => exact ⟨j + 1, m1, A3, c3, by omega, by go_num, by rw [HQ.out], rfl, HO6, HB3⟩
      case measure => simp [intOf] <;> omega
    · obtain rfl : m = 0 := by omega
      obtain rfl : j = k := by omega
      have HLf := Lib.hid (digL_len p a j)
      go_wp2
      go_ret
      exact ⟨⟨_, j, _, rfl, HLf.out, HO.out⟩, HB.out⟩

set_option maxHeartbeats 4000000 in
theorem numberOf_c (w : World) (A : Option Addr) (n c : Nat) (xs : List Int) (p : Nat) (hr : RdI w A c xs) (hn : xs.length = n) (hp : 2 ≤ p) (hp2 : p ≤ 64) (hI : InP p xs) (hB : p ^ n ≤ 64) (hn6 : n ≤ 64) :
    Calls Try.prog 48 #[.slice A n c, .int .i64 (p : Int)] w fun e w' => e = .returned (.int .i64 (num p xs)) ∧ w = w' := by
  have HS := Lib.hid (fun k => num_small (by omega) hI (B := 64) (by rw [hn]; exact hB) k)
  have HI := Lib.hid hI
  have HR := Lib.hid hr
  have HN := Lib.hid hn
  clear hr hn hB hI
  go_enter Try.func48, Try.ntmps48
  go_wp2
  go_loop [5, 6] (fun u v => ∃ (m : Nat) (z : Int), m ≤ n ∧ z = (m : Int) - 1 ∧ v = .int .i64 z ∧ u = .int .i64 (num p (xs.drop m))) (fun _ v => (intOf v + 1).toNat)
  case atStart => exact ⟨n, (n : Int) - 1, Nat.le_refl _, rfl, rfl, by rw [← HN.out, List.drop_length]; rfl⟩
  case round =>
    obtain ⟨m, z, hm, hz, rfl, rfl⟩ := hrel
    by_cases h0 : 0 < m
    · obtain ⟨j, rfl⟩ : ∃ j, m = j + 1 := ⟨m - 1, by omega⟩
      obtain rfl : z = (j : Int) := by omega
      have hjl : j < xs.length := by rw [HN.out]; omega
      obtain ⟨u, hu⟩ : ∃ u : Nat, num p (xs.drop (j + 1)) = (u : Int) := ⟨(num p (xs.drop (j + 1))).toNat, by have := HS.out (j + 1); omega⟩
      have hu64 : u < 64 := by have := HS.out (j + 1); omega
      obtain ⟨y, hy⟩ : ∃ y : Nat, nth xs j = (y : Int) := ⟨(nth xs j).toNat, by have := HI.out j hjl; omega⟩
      have hyp : y < p := by have := HI.out j hjl; omega
      obtain ⟨t, ht⟩ : ∃ t, t = u * p := ⟨_, rfl⟩
      have ht2 : t ≤ 64 * 64 := by rw [ht]; exact Nat.mul_le_mul (by omega) hp2
      have HX := Lib.hid (show num p (xs.drop j) = (t : Int) + (y : Int) by rw [num_drop hjl, hu, hy, ht, Int.natCast_mul])
      have hw1 : IntKind.i64.wrap ((u : Int) * (p : Int)) = (t : Int) := by rw [← Int.natCast_mul, ← ht]; exact IntWalk.i64_in _ (by omega)
      obtain ⟨b, off, e, hb, hc⟩ := HR.out.at_ j hjl
      rw [hy] at hc
      subst e
      rw [hu]
      have hj0 : (0 : Int) ≤ (j : Int) := by omega
      have hj1 : (j : Int) < (n : Int) := by omega
      clear hu hy ht hz
      go_wp2
      go_round
      case rel => exact ⟨j, (j : Int) - 1, by omega, rfl, rfl, by rw [HX.out]⟩
      case measure => simp [intOf] <;> omega
    · obtain rfl : m = 0 := by omega
      obtain rfl : z = -1 := by omega
      rw [List.drop_zero]
      clear hz hm h0
      go_wp2
      go_ret
      exact ⟨rfl, rfl⟩

set_option maxHeartbeats 4000000 in
theorem l03Number_c (w : World) (A : Option Addr) (n c : Nat) (xs : List Int) (p : Nat) (hr : RdI w A c xs) (hn : xs.length = n) (hp : 2 ≤ p) (hp2 : p ≤ 64) (hI : InP p xs) (hB : p ^ n ≤ 64) (hn6 : n ≤ 64) :
    Calls Try.prog 60 #[.slice A n c, .int .i64 (p : Int)] w fun e w' => e = .returned (.int .i64 (num p xs)) ∧ w = w' := by
  have HS := Lib.hid (fun k => num_small (by omega) hI (B := 64) (by rw [hn]; exact hB) k)
  have HI := Lib.hid hI
  have HR := Lib.hid hr
  have HN := Lib.hid hn
  clear hr hn hB hI
  go_enter Try.func60, Try.ntmps60
  go_wp2
  go_loop [5, 6] (fun u v => ∃ (m : Nat) (z : Int), m ≤ n ∧ z = (m : Int) - 1 ∧ v = .int .i64 z ∧ u = .int .i64 (num p (xs.drop m))) (fun _ v => (intOf v + 1).toNat)
  case atStart => exact ⟨n, (n : Int) - 1, Nat.le_refl _, rfl, rfl, by rw [← HN.out, List.drop_length]; rfl⟩
  case round =>
    obtain ⟨m, z, hm, hz, rfl, rfl⟩ := hrel
    by_cases h0 : 0 < m
    · obtain ⟨j, rfl⟩ : ∃ j, m = j + 1 := ⟨m - 1, by omega⟩
      obtain rfl : z = (j : Int) := by omega
      have hjl : j < xs.length := by rw [HN.out]; omega
      obtain ⟨u, hu⟩ : ∃ u : Nat, num p (xs.drop (j + 1)) = (u : Int) := ⟨(num p (xs.drop (j + 1))).toNat, by have := HS.out (j + 1); omega⟩
      have hu64 : u < 64 := by have := HS.out (j + 1); omega
      obtain ⟨y, hy⟩ : ∃ y : Nat, nth xs j = (y : Int) := ⟨(nth xs j).toNat, by have := HI.out j hjl; omega⟩
      have hyp : y < p := by have := HI.out j hjl; omega
      obtain ⟨t, ht⟩ : ∃ t, t = u * p := ⟨_, rfl⟩
      have ht2 : t ≤ 64 * 64 := by rw [ht]; exact Nat.mul_le_mul (by omega) hp2
      have HX := Lib.hid (show num p (xs.drop j) = (t : Int) + (y : Int) by rw [num_drop hjl, hu, hy, ht, Int.natCast_mul])
      have hw1 : IntKind.i64.wrap ((u : Int) * (p : Int)) = (t : Int) := by rw [← Int.natCast_mul, ← ht]; exact IntWalk.i64_in _ (by omega)
      obtain ⟨b, off, e, hb, hc⟩ := HR.out.at_ j hjl
      rw [hy] at hc
      subst e
      rw [hu]
      have hj0 : (0 : Int) ≤ (j : Int) := by omega
      have hj1 : (j : Int) < (n : Int) := by omega
      clear hu hy ht hz
      go_wp2
      go_round
      case rel => exact ⟨j, (j : Int) - 1, by omega, rfl, rfl, by rw [HX.out]⟩
      case measure => simp [intOf] <;> omega
    · obtain rfl : m = 0 := by omega
      obtain rfl : z = -1 := by omega
      rw [List.drop_zero]
      clear hz hm h0
      go_wp2
      go_ret
      exact ⟨rfl, rfl⟩

theorem pow6 {p k : Nat} (hp : 2 ≤ p) (hk : p ^ k ≤ 64) : k ≤ 6 := by
  rcases Nat.lt_or_ge 6 k with h | h
  · have h1 : 2 ^ 7 ≤ 2 ^ k := Nat.pow_le_pow_right (by omega) h
    have h2 : 2 ^ k ≤ p ^ k := Nat.pow_le_pow_left hp k
    have : (2 : Nat) ^ 7 = 128 := rfl
    omega
  · exact h

set_option maxHeartbeats 4000000 in
theorem powerUpTo_c (w : World) (p k : Nat) (hp : 2 ≤ p) (hp2 : p ≤ 64) (hk : p ^ k ≤ 64) :
    Calls Try.prog 63 #[.int .i64 (p : Int), .int .i64 (k : Int), .int .i64 64] w fun e w' => e = .returned (.int .i64 ((p ^ k : Nat) : Int)) ∧ w = w' := by
  have hk6 := pow6 hp hk
  have HP := Lib.hid (show ∀ j, j ≤ k → p ^ j ≤ 64 from fun j hj => Nat.le_trans (Nat.pow_le_pow_right (by omega) hj) hk)
  clear hk
  obtain ⟨T, hT⟩ : ∃ T, T = p ^ k := ⟨_, rfl⟩
  rw [← hT]
  have HT := Lib.hid hT
  clear hT
  go_enter Try.func63, Try.ntmps63
  go_wp2
  go_loop [1, 7] (fun v u => ∃ (j m : Nat), j + m = k ∧ v = .int .i64 m ∧ u = .int .i64 ((p ^ j : Nat) : Int)) (fun v _ => (intOf v).toNat)
  case atStart => exact ⟨0, k, by omega, rfl, rfl⟩
  case round =>
    obtain ⟨j, m, hjm, rfl, rfl⟩ := hrel
    obtain ⟨u, hu⟩ : ∃ u, u = p ^ j := ⟨_, rfl⟩
    have hu64 : u ≤ 64 := by rw [hu]; exact HP.out j (by omega)
    by_cases h0 : 0 < m
    · obtain ⟨m1, rfl⟩ : ∃ m1, m = m1 + 1 := ⟨m - 1, by omega⟩
      obtain ⟨t, ht⟩ : ∃ t, t = u * p := ⟨_, rfl⟩
      have ht2 : t ≤ 64 * 64 := by rw [ht]; exact Nat.mul_le_mul hu64 hp2
      have HX := Lib.hid (show p ^ (j + 1) = t by rw [Nat.pow_succ, ht, hu])
      have hw1 : IntKind.i64.wrap ((u : Int) * (p : Int)) = (t : Int) := by rw [← Int.natCast_mul, ← ht]; exact IntWalk.i64_in _ (by omega)
      have hm0 : (0 : Int) < ((m1 + 1 : Nat) : Int) := by omega
      have hu3 : (u : Int) ≤ 64 := by omega
      rw [← hu]
      clear hu ht
      go_wp2
      go_round
      case rel => exact ⟨j + 1, m1, by omega, by go_num, by rw [HX.out]⟩
      case measure => simp [intOf] <;> omega
    · obtain rfl : m = 0 := by omega
      obtain rfl : j = k := by omega
      rw [← hu]
      obtain rfl : u = T := by rw [hu, HT.out]
      clear hu
      go_wp2
      go_ret
      exact ⟨rfl, rfl⟩

set_option maxHeartbeats 4000000 in
theorem l03Power_c (w : World) (p k : Nat) (hp : 2 ≤ p) (hp2 : p ≤ 64) (hk : p ^ k ≤ 64) :
    Calls Try.prog 75 #[.int .i64 (p : Int), .int .i64 (k : Int)] w fun e w' => e = .returned (.int .i64 ((p ^ k : Nat) : Int)) ∧ w = w' := by
  have hk6 := pow6 hp hk
  have HP := Lib.hid (show ∀ j, j ≤ k → p ^ j ≤ 64 from fun j hj => Nat.le_trans (Nat.pow_le_pow_right (by omega) hj) hk)
  clear hk
  obtain ⟨T, hT⟩ : ∃ T, T = p ^ k := ⟨_, rfl⟩
  rw [← hT]
  have HT := Lib.hid hT
  clear hT
  go_enter Try.func75, Try.ntmps75
  go_wp2
  go_loop [1, 5] (fun v u => ∃ (j m : Nat), j + m = k ∧ v = .int .i64 m ∧ u = .int .i64 ((p ^ j : Nat) : Int)) (fun v _ => (intOf v).toNat)
  case atStart => exact ⟨0, k, by omega, rfl, rfl⟩
  case round =>
    obtain ⟨j, m, hjm, rfl, rfl⟩ := hrel
    obtain ⟨u, hu⟩ : ∃ u, u = p ^ j := ⟨_, rfl⟩
    have hu64 : u ≤ 64 := by rw [hu]; exact HP.out j (by omega)
    by_cases h0 : 0 < m
    · obtain ⟨m1, rfl⟩ : ∃ m1, m = m1 + 1 := ⟨m - 1, by omega⟩
      obtain ⟨t, ht⟩ : ∃ t, t = u * p := ⟨_, rfl⟩
      have ht2 : t ≤ 64 * 64 := by rw [ht]; exact Nat.mul_le_mul hu64 hp2
      have HX := Lib.hid (show p ^ (j + 1) = t by rw [Nat.pow_succ, ht, hu])
      have hw1 : IntKind.i64.wrap ((u : Int) * (p : Int)) = (t : Int) := by rw [← Int.natCast_mul, ← ht]; exact IntWalk.i64_in _ (by omega)
      have hm0 : (0 : Int) < ((m1 + 1 : Nat) : Int) := by omega
      have hu3 : (u : Int) ≤ 64 := by omega
      rw [← hu]
      clear hu ht
      go_wp2
      go_round
      case rel => exact ⟨j + 1, m1, by omega, by go_num, by rw [HX.out]⟩
      case measure => simp [intOf] <;> omega
    · obtain rfl : m = 0 := by omega
      obtain rfl : j = k := by omega
      rw [← hu]
      obtain rfl : u = T := by rw [hu, HT.out]
      clear hu
      go_wp2
      go_ret
      exact ⟨rfl, rfl⟩
end Go.Proofs.Ytbbaeopobnpnmaa
