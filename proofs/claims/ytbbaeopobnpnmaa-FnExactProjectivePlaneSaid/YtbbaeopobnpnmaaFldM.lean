/-
  The field of a size: PrimePower and MakeField of the program, l03Split and l03Make of the reference. Conditions: those of each theorem.
-/
import Derived.Test.YtbbaeopobnpnmaaFldI
import Derived.Test.YtbbaeopobnpnmaaFldQ
namespace Go.Proofs.Ytbbaeopobnpnmaa
open Go.RowKit
set_option linter.unusedVariables false
set_option linter.unusedSimpArgs false

theorem facRun_len : ∀ (f : Nat) (b : Bool) (p n : Nat), (facRun f b p n).length ≤ f + 1 := by
  intro f
  induction f with
  | zero => intro b p n; simp [facRun]
  | succ f ih =>
    intro b p n
    unfold facRun
    cases b
    · simp only
      split
      · have := ih true p n; omega
      · split <;> simp
    · simp only
      split
      · have := ih true p (n / p); simp; omega
      · have := ih false (p + 1) n; omega
theorem factorsZ_len (q : Int) : (factorsZ q).length ≤ 3000011 := by
  unfold factorsZ
  split
  · have := facRun_len (3 * q.toNat + 10) false 2 q.toNat
    unfold factors
    omega
  · simp

set_option maxHeartbeats 4000000 in
theorem PrimePower_c (w : World) (q : Int) : Calls Try.prog 40 #[.int .i64 q] w (PostV w (.tuple #[.int .i64 (ppF q).1, .int .i64 (ppF q).2])) := by
  have HFa := Lib.hid (FactorsOf_c w q)
  have HLe := Lib.hid (factorsZ_len q)
  obtain ⟨xs, hxs⟩ : ∃ xs, xs = factorsZ q := ⟨_, rfl⟩
  have hT : ppF q = ppL xs := by unfold ppF; rw [hxs]
  rw [hT]
  rw [← hxs] at HFa HLe
  clear hT hxs
  go_enter Try.func40, Try.ntmps40
  go_wp2_with fail
  refine (HFa.out).mono ?_
  rintro e w1 ⟨⟨A, n, c, rfl, hn, ho⟩, hb⟩
  have HN := Lib.hid hn
  have HO := Lib.hid ho
  have HB := Lib.hid hb
  have hn3 : n ≤ 3000011 := by rw [← hn]; exact HLe.out
  clear hn ho hb
  go_wp2
  go_loop [11] (fun v => ∃ k : Nat, k ≤ n ∧ v = .int .i64 k ∧ Hid (∀ j, j < k → nth xs j = nth xs 0)) (fun v => n - (intOf v).toNat)
  case atStart => exact ⟨0, Nat.zero_le _, rfl, Lib.hid (fun j h => absurd h (by omega))⟩
  case round =>
    obtain ⟨k, hk, rfl, HE⟩ := hrel
    by_cases hkn : k < n
    · obtain ⟨g, eg, _, _, hck, _⟩ := HO.out.at_ (k := k) (by rw [HN.out]; exact hkn)
      obtain ⟨g2, eg2, _, _, hc0, _⟩ := HO.out.at_ (k := 0) (by rw [HN.out]; omega)
      rw [eg] at eg2
      injection eg2 with eg2
      injection eg2 with eg2
      subst eg2
      have hk0 : (0 : Int) ≤ (k : Int) := by omega
      have hk1 : (k : Int) < (n : Int) := by omega
      have hn0 : (0 : Int) < (n : Int) := by omega
      rw [eg]
      obtain ⟨x, hx⟩ : ∃ x, x = nth xs k := ⟨_, rfl⟩
      obtain ⟨y, hy⟩ : ∃ y, y = nth xs 0 := ⟨_, rfl⟩
      rw [← hx] at hck
      rw [← hy] at hc0
      by_cases hxy : x = y
      · have HE2 := Lib.hid (show ∀ j, j < k + 1 → nth xs j = nth xs 0 from fun j hj => by
          by_cases e : j = k
          · subst e; rw [← hx, ← hy]; exact hxy
          · exact HE.out j (by omega))
        have hd : (x != y) = false := by simp; exact hxy
        clear hx hy hxy eg
        go_wp2
        go_round
        case rel => exact ⟨k + 1, by omega, by go_num, HE2⟩
        case measure => simp [intOf] <;> omega
      · have HF := Lib.hid (show ppL xs = (0, 0) from if_neg fun h => hxy (by rw [hx, hy]; exact h.2 k (by rw [HN.out]; exact hkn)))
        have hd : (x != y) = true := by simp; exact hxy
        skip
        clear hx hy hxy eg
        go_wp2
        go_ret2
        exact ⟨by rw [HF.out]; rfl, HB.out⟩
    · obtain rfl : k = n := by omega
      by_cases h0 : k = 0
      · have HF := Lib.hid (show ppL xs = (0, 0) from if_neg fun h => h.1 (by rw [HN.out]; exact h0))
        skip
        subst h0
        go_wp2
        go_ret2
        exact ⟨by rw [HF.out]; rfl, HB.out⟩
      · have HF := Lib.hid (show ppL xs = (nth xs 0, (k : Int)) from by unfold ppL; rw [if_pos ⟨by rw [HN.out]; exact h0, fun j hj => HE.out j (by rw [← HN.out]; exact hj)⟩, HN.out])
        obtain ⟨g2, eg2, _, _, hc0, _⟩ := HO.out.at_ (k := 0) (by rw [HN.out]; omega)
        have hd : ((k : Int) == 0) = false := by simp; omega
        have hn0 : (0 : Int) < (k : Int) := by omega
        have hn1 : 0 < k := by omega
        rw [eg2]
        clear eg2 h0
        generalize nth xs 0 = y at *
        go_wp2
        go_quiet ((go_at_call 62; first | exact quiet_n (sizeI_c _ _ _ _) | (with_reducible exact quiet_drN (sizeI_c _ _ _ _)) | (with_reducible exact quiet_dr (sizeI_c _ _ _ _)) | (with_reducible exact quiet_w2 (sizeI_c _ _ _ _))))
        clear hc0
        go_wp2
        go_ret2
        exact ⟨by rw [HF.out]; rfl, below_drewN HB.out nq⟩

/-- Prime and degree of a field's size; zeros if there is none. -/
def fdV (q : Int) : Int × Int := if fdB q = true then ((fdP q : Int), (fdK q : Int)) else (0, 0)
theorem fdV_spl {n : Nat} (h1 : 2 ≤ n) (h2 : n ≤ 64) : fdV (n : Int) = splF n := by
  have h := pp_all n (by omega) h1
  unfold fdV
  by_cases hb : fdB (n : Int) = true
  · rw [if_pos hb, h.1]; exact (fd_spec hb).2.1.symm
  · rw [if_neg hb, h.1]
    by_cases h0 : ppF (n : Int) = (0, 0)
    · exact h0.symm
    · exact absurd (decide_eq_true ⟨by omega, by omega, h0⟩) hb
theorem splR_end {p f n k : Nat} (h : n ≤ 1) : splR p f n k = ((p : Int), (k : Int)) := by
  cases f with
  | zero => rfl
  | succ f => rw [splR, if_pos h]

set_option maxHeartbeats 4000000 in
theorem l03Split_c (w : World) (q : Int) : Calls Try.prog 18 #[.int .i64 q] w fun e w' => e = .returned (.tuple #[.int .i64 (fdV q).1, .int .i64 (fdV q).2]) ∧ w = w' := by
  have hIn := in_c q 2 64 w
  rcases hi : inB q 2 64 with _ | _
  · rw [hi] at hIn
    have HIn := Lib.hid hIn
    have hb : fdB q = false := decide_eq_false fun h => (inB_false.1 hi) ⟨h.1, h.2.1⟩
    rw [show fdV q = (0, 0) from if_neg (by rw [hb]; simp)]
    clear hIn hi hb
    go_enter Try.func18, Try.ntmps18
    go_wp2_with fail
    refine (HIn.out).mono ?_
    rintro e w' ⟨rfl, rfl⟩
    go_wp2
    go_ret2
    exact ⟨rfl, rfl⟩
  rw [hi] at hIn
  have HIn := Lib.hid hIn
  have h2 := inB_true.1 hi
  obtain ⟨n, rfl⟩ : ∃ n : Nat, q = (n : Int) := ⟨q.toNat, by omega⟩
  have hn2 : 2 ≤ n := by omega
  have hn64 : n ≤ 64 := by omega
  rw [fdV_spl hn2 hn64]
  have hs := spl_all n (by omega) hn2
  have HT := Lib.hid (show splF n = splR (splD n) n n 0 from rfl)
  obtain ⟨P, hP⟩ : ∃ P, P = splD n := ⟨_, rfl⟩
  rw [← hP] at hs HT
  obtain ⟨hs1, hs2, hs3, hs4⟩ := hs
  have HS4 := Lib.hid hs4
  obtain ⟨T, hT⟩ : ∃ T, T = splF n := ⟨_, rfl⟩
  rw [← hT] at HT ⊢
  have HS3 := Lib.hid hs3
  clear hIn hi h2 hP hs4 hT hs3
  go_enter Try.func18, Try.ntmps18
  go_wp2_with fail
  refine (HIn.out).mono ?_
  rintro e w' ⟨rfl, rfl⟩
  go_wp2
  go_loop [4] (fun v => ∃ p : Nat, 2 ≤ p ∧ p ≤ P ∧ v = .int .i64 p) (fun v => P - (intOf v).toNat)
  case atStart => exact ⟨2, Nat.le_refl _, hs1, rfl⟩
  case round =>
    obtain ⟨p, hp, hpP, rfl⟩ := hrel
    have hpz : ((p : Int) == 0) = false := by simp; omega
    have hpn : (p : Int) ≠ 0 := by omega
    obtain ⟨r, hr⟩ : ∃ r, r = n % p := ⟨_, rfl⟩
    have hr1 : (n : Int).tmod (p : Int) = (r : Int) := by rw [hr]; exact tmod_nn n p
    have hr2 : (n : Int) % (p : Int) = (r : Int) := by rw [hr]; exact (Int.natCast_emod n p).symm
    by_cases hlt : p < P
    · have hr0 : r ≠ 0 := by rw [hr]; exact HS4.out p hlt hp
      have hd : ((r : Int) != 0) = true := by simp; omega
      clear hr hr0
      go_wp2
      go_round
      case rel => exact ⟨p + 1, by omega, by omega, by go_num⟩
      case measure => simp [intOf] <;> omega
    · obtain rfl : p = P := by omega
      obtain rfl : r = 0 := by rw [hr]; exact HS3.out
      have hd : (((0 : Nat) : Int) != 0) = false := rfl
      clear hr
      go_wp2
      clear hr1 hr2 hd
      go_loop [5, 6] (fun u v => ∃ (m k f : Nat), k + m ≤ 64 ∧ m ≤ f ∧ u = .int .i64 k ∧ v = .int .i64 m ∧ Hid (T = splR p f m k)) (fun _ v => (intOf v).toNat)
      case atStart => exact ⟨n, 0, n, by omega, Nat.le_refl _, rfl, rfl, HT⟩
      case round =>
        obtain ⟨m, k, f, hkm, hmf, rfl, rfl, HR⟩ := hrel
        by_cases hm1 : 1 < m
        · obtain ⟨f1, rfl⟩ : ∃ f1, f = f1 + 1 := ⟨f - 1, by omega⟩
          have hR := HR.out
          rw [splR, if_neg (by omega)] at hR
          obtain ⟨s, hs⟩ : ∃ s, s = m % p := ⟨_, rfl⟩
          obtain ⟨z, hz⟩ : ∃ z, z = m / p := ⟨_, rfl⟩
          have hzm : z < m := by rw [hz]; exact Nat.div_lt_self (by omega) (by omega)
          rw [← hs, ← hz] at hR
          have hs1' : (m : Int).tmod (p : Int) = (s : Int) := by rw [hs]; exact tmod_nn m p
          have hs2' : (m : Int) % (p : Int) = (s : Int) := by rw [hs]; exact (Int.natCast_emod m p).symm
          have hz1 : (m : Int).tdiv (p : Int) = (z : Int) := by rw [hz]; exact tdiv_nn m p
          have hz2 : (m : Int) / (p : Int) = (z : Int) := by rw [hz]; exact (Int.natCast_ediv m p).symm
          have hm2 : (1 : Int) < (m : Int) := by omega
          by_cases h0 : s = 0
          · subst h0
            have HR2 := Lib.hid (show T = splR p f1 z (k + 1) by rw [hR]; simp)
            have hd : (((0 : Nat) : Int) != 0) = false := rfl
            clear hs hz hR
            go_wp2
            go_round
            case rel => exact ⟨z, k + 1, f1, by omega, by omega, by go_num, rfl, HR2⟩
            case measure => simp [intOf] <;> omega
          · have HF := Lib.hid (show T = (0, 0) by rw [hR]; simp [h0])
            have hd : ((s : Int) != 0) = true := by simp; omega
            skip
            clear hs hz hR h0
            go_wp2
            go_ret2
            exact ⟨by rw [HF.out]; rfl, rfl⟩
        · have HF := Lib.hid (show T = ((p : Int), (k : Int)) by rw [HR.out]; exact splR_end (by omega))
          have hm2 : ¬ (1 : Int) < (m : Int) := by omega
          skip
          go_wp2
          go_ret2
          exact ⟨by rw [HF.out]; rfl, rfl⟩
end Go.Proofs.Ytbbaeopobnpnmaa
