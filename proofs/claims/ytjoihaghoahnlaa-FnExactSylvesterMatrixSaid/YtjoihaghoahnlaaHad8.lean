/-
  SylvesterMatrix: contracts of the program's and of the reference's functions. Conditions: those of each theorem.
-/
import Derived.Test.YtjoihaghoahnlaaHad7
namespace Go.Proofs.Ytjoihaghoahnlaa
open Go.RowKit
set_option linter.unusedVariables false
set_option linter.unusedSimpArgs false

def two : Nat → Nat → Int := fun x y => if x = 1 ∧ y = 1 then -1 else 1
def sylF : Nat → Nat → Nat → Int
  | 0 => fun _ _ => 1
  | k + 1 => prodF two (sylF k) (2 ^ k)
theorem two_pm : PmF two 2 := fun x y _ _ => by unfold two; split <;> simp
theorem syl_pm : ∀ k, PmF (sylF k) (2 ^ k)
  | 0 => fun _ _ _ _ => .inl rfl
  | k + 1 => by
    have := two_pm.prod (syl_pm k) (Nat.two_pow_pos k)
    rw [show 2 ^ (k + 1) = 2 * 2 ^ k by rw [Nat.pow_succ, Nat.mul_comm]]
    exact this
theorem syl_succ (k : Nat) : sqTo (prodF two (sylF k) (2 ^ k)) (2 * 2 ^ k) (2 * 2 ^ k) = sqTo (sylF (k + 1)) (2 ^ (k + 1)) (2 ^ (k + 1)) := by
  rw [show 2 ^ (k + 1) = 2 * 2 ^ k by rw [Nat.pow_succ, Nat.mul_comm]]; rfl

/-- The two rows 1 1 and 1 -1, laid. -/
theorem two_rd (w : World) : RdM (((w.alloc (.cells #[.int .i64 1, .int .i64 1] 2)).alloc (.cells #[.int .i64 1, .int .i64 (-1)] 2)).alloc
      (.cells #[.slice (some ⟨w.heap.size, 0, none⟩) 2 2, .slice (some ⟨w.heap.size + 1, 0, none⟩) 2 2] 22)) (some ⟨w.heap.size + 1 + 1, 0, none⟩) 2 (fun k => (some ⟨w.heap.size + k, 0, none⟩, 2)) (sqTo two 2 2) := by
  refine ⟨by rw [length_sqTo]; omega, by unfold maxLen; omega, fun k hk => ⟨w.heap.size + 1 + 1, 0, rfl, by simp, ?_⟩, fun k hk => ?_⟩
  · rw [length_sqTo] at hk
    rw [row_sqTo hk, length_rowTo, World.cell?_alloc_at _ _ _ _ (by simp)]
    match k, hk with
    | 0, _ => rfl
    | 1, _ => rfl
  · rw [length_sqTo] at hk
    rw [row_sqTo hk]
    refine ⟨by rw [length_rowTo]; exact Nat.le_refl _, by unfold maxLen; omega, fun j hj => ?_⟩
    rw [length_rowTo] at hj
    rw [nth_rowTo hj]
    match k, hk with
    | 0, _ =>
      refine ⟨w.heap.size, 0, rfl, by simp; omega, ?_⟩
      rw [World.cell?_alloc_past _ _ _ (by simp; omega), World.cell?_alloc_past _ _ _ (by simp), World.cell?_alloc_at _ _ _ _ rfl]
      match j, hj with
      | 0, _ => rfl
      | 1, _ => rfl
    | 1, _ =>
      refine ⟨w.heap.size + 1, 0, rfl, by simp, ?_⟩
      rw [World.cell?_alloc_past _ _ _ (by simp), World.cell?_alloc_at _ _ _ _ (by simp)]
      match j, hj with
      | 0, _ => rfl
      | 1, _ => rfl

/-- The one row 1, laid. -/
theorem one_own (w : World) : ∃ R, OwnM ((w.alloc (.cells #[.int .i64 1] 2)).alloc (.cells #[.slice (some ⟨w.heap.size, 0, none⟩) 1 1] 22)) w.heap.size (some ⟨w.heap.size + 1, 0, none⟩) 1 R (sqTo (sylF 0) (2 ^ 0) (2 ^ 0)) := by
  refine ⟨fun _ => (some ⟨w.heap.size, 0, none⟩, 1), ?_, fun k hk => ?_, fun i j hij hj => ?_⟩
  · have := World.ownsRow_lit (e := 22) (size := 1) (base := w.heap.size) (w.alloc (.cells #[.int .i64 1] 2)) #[.slice (some ⟨w.heap.size, 0, none⟩) 1 1] 1 (by simp) (by unfold maxLen; omega) rfl
    rw [World.size_alloc] at this
    exact this
  · have hk0 : k = 0 := by rw [length_sqTo] at hk; omega
    subst hk0
    have h1 := World.ownsRow_lit (e := 2) (size := 1) (base := w.heap.size) w #[.int .i64 1] 1 (Nat.le_refl _) (by unfold maxLen; omega) rfl
    have h2 : OwnI (w.alloc (.cells #[.int .i64 1] 2)) w.heap.size (some ⟨w.heap.size, 0, none⟩) 1 [1] := h1
    exact h2.alloc _
  · rw [length_sqTo] at hj; omega

noncomputable def sylR (k : Int) : List (List Int) := if 0 ≤ k ∧ k ≤ 5 then sqTo (sylF k.toNat) (2 ^ k.toNat) (2 ^ k.toNat) else []
noncomputable def sylC (k : Int) : Int := if 0 ≤ k ∧ k ≤ 5 then 0 else 2
theorem pow_le32 {k : Nat} (h : k ≤ 5) : 2 ^ k ≤ 32 := Nat.pow_le_pow_right (by omega) h
theorem SylvesterMatrix_small (k : Int) : (sylR k).length ≤ 1048576 ∧ tot (sylR k) ≤ 1048576 := by
  unfold sylR
  split
  · next hv =>
    have h1 : 2 ^ k.toNat ≤ 32 := pow_le32 (by omega)
    rw [length_sqTo, tot_sqTo]
    exact ⟨by omega, Nat.le_trans (Nat.mul_le_mul h1 h1) (by omega)⟩
  · simp [tot]

set_option maxHeartbeats 1000000 in
theorem l15Sylvester_c (w : World) (k : Nat) (hk : k ≤ 5) :
    Calls Try.prog 54 #[.int .i64 (k : Int)] w (PostM w (sqTo (sylF k) (2 ^ k) (2 ^ k))) := by
  obtain ⟨R0, h0⟩ := one_own w
  have H0 := Lib.hid h0
  clear h0
  go_enter Try.func54, Try.ntmps54
  go_wp2
  go_loopw [0, 3] (fun i o wr => ∃ (j n : Nat) (A : Option Addr) (c : Nat) (R : Spine), j ≤ k ∧ i = .int .i64 ((k : Int) - (j : Int)) ∧ o = .slice A n c ∧ Hid (n = 2 ^ j) ∧ OwnM wr w.heap.size A c R (sqTo (sylF j) (2 ^ j) (2 ^ j)) ∧ Below w.heap.size w wr) (fun i _ _ => (intOf i).toNat)
  case atStart => exact ⟨0, 1, _, _, R0, Nat.zero_le _, by simp, rfl, by simp [Hid], H0.out, ((Below.refl _ _).alloc (Nat.le_refl _) _).alloc (by simp) _⟩
  case round =>
    obtain ⟨j, n, A, c, R, hj, rfl, rfl, hn, ho, hB⟩ := hrel
    by_cases hlt : j < k
    · have hpos : 0 < (k : Int) - (j : Int) := by omega
      have h32 := pow_le32 (k := j) (by omega)
      have hn32 : n ≤ 32 := by rw [hn.out]; exact h32
      have h16 : 2 * 2 ^ j ≤ 1000 := by omega
      have hBa : Below w.heap.size w (((wr.alloc (.cells #[.int .i64 1, .int .i64 1] 2)).alloc (.cells #[.int .i64 1, .int .i64 (-1)] 2)).alloc (.cells #[.slice (some ⟨wr.heap.size, 0, none⟩) 2 2, .slice (some ⟨wr.heap.size + 1, 0, none⟩) 2 2] 22)) := by
        have := hB.size
        exact ((hB.alloc this _).alloc (by simp; omega) _).alloc (by simp; omega) _
      have hBr : Below wr.heap.size wr (((wr.alloc (.cells #[.int .i64 1, .int .i64 1] 2)).alloc (.cells #[.int .i64 1, .int .i64 (-1)] 2)).alloc (.cells #[.slice (some ⟨wr.heap.size, 0, none⟩) 2 2, .slice (some ⟨wr.heap.size + 1, 0, none⟩) 2 2] 22)) :=
        (((Below.refl _ _).alloc (Nat.le_refl _) _).alloc (by simp) _).alloc (by simp; omega) _
      have hcall := l15Product_c (((wr.alloc (.cells #[.int .i64 1, .int .i64 1] 2)).alloc (.cells #[.int .i64 1, .int .i64 (-1)] 2)).alloc (.cells #[.slice (some ⟨wr.heap.size, 0, none⟩) 2 2, .slice (some ⟨wr.heap.size + 1, 0, none⟩) 2 2] 22))
        (some ⟨wr.heap.size + 1 + 1, 0, none⟩) A 2 (2 ^ j) 2 c _ R two (sylF j) (two_rd wr) (ho.rd.below hBr) two_pm (syl_pm j) (by omega) (Nat.two_pow_pos j) h16
      rw [syl_succ, ← hn.out] at hcall
      have HC := Lib.hid hcall
      have HBa := Lib.hid hBa
      have hz := hBa.size
      have hz' : w.heap.size ≤ wr.heap.size := hB.size
      clear hcall ho hBa hBr h32 h16
      go_wp2_with fail
      refine (HC.out).mono ?_
      rintro e w2 ⟨⟨A2, n2, c2, R2, rfl, hn2, ho2⟩, hb2⟩
      have HN2 := Lib.hid (show n2 = 2 ^ (j + 1) by rw [← hn2, length_sqTo])
      have HO2 := Lib.hid (ho2.lower (lo' := w.heap.size) hz)
      have hB2 : Below w.heap.size w w2 := HBa.out.trans (hb2.mono hz)
      clear hn2 ho2 hb2
      go_wp2
      go_roundw
      case rel => exact ⟨j + 1, n2, A2, c2, R2, by omega, by go_num, rfl, HN2.out, HO2.out, hB2⟩
      case measure => simp [intOf]; omega
    · obtain rfl : j = k := by omega
      have hzero : ((j : Int) - (j : Int)) = 0 := by omega
      have HN := Lib.hid (show (sqTo (sylF j) (2 ^ j) (2 ^ j)).length = n by rw [length_sqTo]; exact hn.out.symm)
      have HO := Lib.hid ho
      clear ho
      rw [hzero]
      clear hzero
      go_wp2
      go_ret
      exact ⟨⟨A, n, c, R, rfl, HN.out, HO.out⟩, hB⟩

set_option maxHeartbeats 400000 in
theorem specSylvesterMatrix_c (w : World) (k : Int) (hk : -9223372036854775808 ≤ k ∧ k ≤ 9223372036854775807) :
    Calls Try.prog 20 #[.int .i64 k] w (PostMC w (sylR k) (sylC k)) := by
  by_cases h : 0 ≤ k ∧ k ≤ 5
  · rw [show sylR k = sqTo (sylF k.toNat) (2 ^ k.toNat) (2 ^ k.toNat) by simp [sylR, h], show sylC k = 0 by simp [sylC, h]]
    have hw' := in_c k 0 5
    rw [inB_true.2 h] at hw'
    have HW := Lib.hid hw'
    obtain ⟨n, rfl⟩ := Int.eq_ofNat_of_zero_le h.1
    rw [Int.toNat_natCast]
    have hn : n ≤ 5 := by omega
    clear hw' h hk
    go_enter Try.func20, Try.ntmps20
    go_wp2_with fail
    refine (HW.out _).mono ?_
    rintro e w' ⟨rfl, rfl⟩
    go_wp2_with fail
    refine (l15Sylvester_c w n hn).mono ?_
    rintro e w2 ⟨⟨A2, n2, c2, R2, rfl, hn2, ho2⟩, hb2⟩
    have HL := Lib.hid hn2
    have HO := Lib.hid ho2
    clear hn2 ho2
    go_wp2
    go_ret2
    exact ⟨⟨A2, n2, c2, R2, rfl, HL.out, HO.out⟩, hb2⟩
  · rw [show sylR k = [] by simp only [sylR]; rw [if_neg h], show sylC k = 2 by simp only [sylC]; rw [if_neg h]]
    have hw' := in_c k 0 5
    rw [inB_false.2 h] at hw'
    have HW := Lib.hid hw'
    clear hw' h
    go_enter Try.func20, Try.ntmps20
    go_wp2_with fail
    refine (HW.out _).mono ?_
    rintro e w' ⟨rfl, rfl⟩
    go_wp2
    go_ret2
    exact ⟨⟨none, 0, 0, fun _ => (none, 0), rfl, rfl, OwnM.nil_ _ _ _⟩, Below.refl _ _⟩

set_option maxHeartbeats 1000000 in
theorem implSylvesterMatrix_c (w : World) (k : Int) (hk : -9223372036854775808 ≤ k ∧ k ≤ 9223372036854775807) :
    Calls Try.prog 21 #[.int .i64 k] w (PostMC w (sylR k) (sylC k)) := by
  by_cases h : 0 ≤ k ∧ k ≤ 5
  · rw [show sylR k = sqTo (sylF k.toNat) (2 ^ k.toNat) (2 ^ k.toNat) by simp [sylR, h], show sylC k = 0 by simp [sylC, h]]
    have hw' := within_c k 0 5
    rw [inB_true.2 h] at hw'
    have HW := Lib.hid hw'
    obtain ⟨k, rfl⟩ := Int.eq_ofNat_of_zero_le h.1
    rw [Int.toNat_natCast]
    have hk5 : k ≤ 5 := by omega
    obtain ⟨R0, h0⟩ := one_own w
    have H0 := Lib.hid h0
    clear hw' h hk h0
    go_enter Try.func21, Try.ntmps21
    go_wp2_with fail
    refine (HW.out _).mono ?_
    rintro e w' ⟨rfl, rfl⟩
    go_wp2
    go_loopw [0, 4] (fun i o wr => ∃ (j n : Nat) (A : Option Addr) (c : Nat) (R : Spine), j ≤ k ∧ i = .int .i64 ((k : Int) - (j : Int)) ∧ o = .slice A n c ∧ Hid (n = 2 ^ j) ∧ OwnM wr w.heap.size A c R (sqTo (sylF j) (2 ^ j) (2 ^ j)) ∧ Below w.heap.size w wr) (fun i _ _ => (intOf i).toNat)
    case atStart => exact ⟨0, 1, _, _, R0, Nat.zero_le _, by simp, rfl, by simp [Hid], H0.out, ((Below.refl _ _).alloc (Nat.le_refl _) _).alloc (by simp) _⟩
    case round =>
      obtain ⟨j, n, A, c, R, hj, rfl, rfl, hn, ho, hB⟩ := hrel
      by_cases hlt : j < k
      · have hpos : 0 < (k : Int) - (j : Int) := by omega
        have h32 := pow_le32 (k := j) (by omega)
        have hn32 : n ≤ 32 := by rw [hn.out]; exact h32
        have h16 : 2 * 2 ^ j ≤ 1000 := by omega
        have hBa : Below w.heap.size w (((wr.alloc (.cells #[.int .i64 1, .int .i64 1] 2)).alloc (.cells #[.int .i64 1, .int .i64 (-1)] 2)).alloc (.cells #[.slice (some ⟨wr.heap.size, 0, none⟩) 2 2, .slice (some ⟨wr.heap.size + 1, 0, none⟩) 2 2] 22)) := by
          have := hB.size
          exact ((hB.alloc this _).alloc (by simp; omega) _).alloc (by simp; omega) _
        have hBr : Below wr.heap.size wr (((wr.alloc (.cells #[.int .i64 1, .int .i64 1] 2)).alloc (.cells #[.int .i64 1, .int .i64 (-1)] 2)).alloc (.cells #[.slice (some ⟨wr.heap.size, 0, none⟩) 2 2, .slice (some ⟨wr.heap.size + 1, 0, none⟩) 2 2] 22)) :=
          (((Below.refl _ _).alloc (Nat.le_refl _) _).alloc (by simp) _).alloc (by simp; omega) _
        have hcall := implProduct_c (((wr.alloc (.cells #[.int .i64 1, .int .i64 1] 2)).alloc (.cells #[.int .i64 1, .int .i64 (-1)] 2)).alloc (.cells #[.slice (some ⟨wr.heap.size, 0, none⟩) 2 2, .slice (some ⟨wr.heap.size + 1, 0, none⟩) 2 2] 22))
          (some ⟨wr.heap.size + 1 + 1, 0, none⟩) A 2 (2 ^ j) 2 c _ R two (sylF j) (two_rd wr) (ho.rd.below hBr) two_pm (syl_pm j) (by omega) (Nat.two_pow_pos j) h16
        rw [syl_succ, ← hn.out] at hcall
        have HC := Lib.hid hcall
        have HBa := Lib.hid hBa
        have hz := hBa.size
        have hz' : w.heap.size ≤ wr.heap.size := hB.size
        clear hcall ho hBa hBr h32 h16
        go_wp2_with fail
        refine (HC.out).mono ?_
        rintro e w2 ⟨⟨A2, n2, c2, R2, rfl, hn2, ho2⟩, hb2⟩
        have HN2 := Lib.hid (show n2 = 2 ^ (j + 1) by rw [← hn2, length_sqTo])
        have HO2 := Lib.hid (ho2.lower (lo' := w.heap.size) hz)
        have hB2 : Below w.heap.size w w2 := HBa.out.trans (hb2.mono hz)
        clear hn2 ho2 hb2
        go_wp2
        go_roundw
        case rel => exact ⟨j + 1, n2, A2, c2, R2, by omega, by go_num, rfl, HN2.out, HO2.out, hB2⟩
        case measure => simp [intOf]; omega
      · obtain rfl : j = k := by omega
        have hzero : ((j : Int) - (j : Int)) = 0 := by omega
        have HN := Lib.hid (show (sqTo (sylF j) (2 ^ j) (2 ^ j)).length = n by rw [length_sqTo]; exact hn.out.symm)
        have HO := Lib.hid ho
        clear ho
        rw [hzero]
        clear hzero
        go_wp2
        go_ret2
        exact ⟨⟨A, n, c, R, rfl, HN.out, HO.out⟩, hB⟩
  · rw [show sylR k = [] by simp only [sylR]; rw [if_neg h], show sylC k = 2 by simp only [sylC]; rw [if_neg h]]
    have hw' := within_c k 0 5
    rw [inB_false.2 h] at hw'
    have HW := Lib.hid hw'
    clear hw' h
    go_enter Try.func21, Try.ntmps21
    go_wp2_with fail
    refine (HW.out _).mono ?_
    rintro e w' ⟨rfl, rfl⟩
    go_wp2
    go_ret2
    exact ⟨⟨none, 0, 0, fun _ => (none, 0), rfl, rfl, OwnM.nil_ _ _ _⟩, Below.refl _ _⟩
end Go.Proofs.Ytjoihaghoahnlaa
