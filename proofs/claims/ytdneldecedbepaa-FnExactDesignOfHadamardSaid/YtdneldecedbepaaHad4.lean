/-
  NegateLine and NormalHadamard: contracts of the program's and of the reference's functions. Conditions: those of each theorem.
-/
import Derived.Test.YtdneldecedbepaaHad3
namespace Go.Proofs.Ytdneldecedbepaa
open Go.RowKit
set_option linter.unusedVariables false
set_option linter.unusedSimpArgs false

/-- A line's signs turned. -/
def negF (f : Nat → Nat → Int) (l : Nat) (b : Bool) : Nat → Nat → Int := fun x y => if (if b = true then x else y) = l then -f x y else f x y
/-- The same in its first k places. -/
def negTo (f : Nat → Nat → Int) (l : Nat) (b : Bool) (k : Nat) : Nat → Nat → Int :=
  fun x y => if (if b = true then x else y) = l ∧ (if b = true then y else x) < k then -f x y else f x y
theorem negTo_zero (f : Nat → Nat → Int) (l : Nat) (b : Bool) : negTo f l b 0 = f := by
  funext x y; simp [negTo]
theorem negTo_all (f : Nat → Nat → Int) (l : Nat) (b : Bool) (n : Nat) : sqTo (negTo f l b n) n n = sqTo (negF f l b) n n :=
  sqTo_congr fun x y hx hy => by
    unfold negTo negF
    cases b <;> simp [hx, hy]
theorem upd_row (f : Nat → Nat → Int) (l k : Nat) : upd (negTo f l true k) l k (-f l k) = negTo f l true (k + 1) := by
  funext x y
  unfold upd negTo
  by_cases h1 : x = l
  · subst h1
    by_cases h2 : y = k
    · subst h2; simp
    · by_cases h3 : y < k
      · rw [if_neg (by omega), if_pos (by simp [h3]), if_pos (by simp; omega)]
      · rw [if_neg (by omega), if_neg (by simp; omega), if_neg (by simp; omega)]
  · simp [h1]
theorem upd_col (f : Nat → Nat → Int) (l k : Nat) : upd (negTo f l false k) k l (-f k l) = negTo f l false (k + 1) := by
  funext x y
  unfold upd negTo
  by_cases h1 : y = l
  · subst h1
    by_cases h2 : x = k
    · subst h2; simp
    · by_cases h3 : x < k
      · rw [if_neg (by omega), if_pos (by simp [h3]), if_pos (by simp; omega)]
      · rw [if_neg (by omega), if_neg (by simp; omega), if_neg (by simp; omega)]
  · simp [h1]
theorem PmF.neg {f : Nat → Nat → Int} {n : Nat} (h : PmF f n) (l : Nat) (b : Bool) : PmF (negF f l b) n := fun x y hx hy => by
  have := h x y hx hy
  unfold negF
  split <;> omega
theorem wrap_neg {v : Int} (h : v = 1 ∨ v = -1) : IntKind.i64.wrap (-v) = -v := IntWalk.i64_in _ (by omega)

set_option maxHeartbeats 1000000 in
theorem l15Negate_c (w : World) (A : Option Addr) (n c : Nat) (R : Spine) (f : Nat → Nat → Int) (l : Nat) (bl : Bool) (hr : RdM w A c R (sqTo f n n)) (hf : PmF f n) (hl : l < n) (hn : n ≤ 1000) :
    Calls Try.prog 101 #[.slice A n c, .int .i64 (l : Int), .bool bl] w (PostM w (sqTo (negF f l bl) n n)) := by
  have hcap : NilCap R n := by
    have := nilCap_of_rows hr (fun k hk => by rw [length_sqTo] at hk; rw [row_sqTo hk, length_rowTo]; omega)
    rwa [length_sqTo] at this
  have HC := Lib.hid (l17Own_c w A n c R (sqTo f n n) hr (length_sqTo f n n) hcap (by omega) (fun k hk => by rw [row_sqTo hk, length_rowTo]; omega))
  have HF := Lib.hid hf
  clear hr hcap hf
  cases bl
  · go_enter Try.func101, Try.ntmps101
    go_wp2_with fail
    refine (HC.out).mono ?_
    rintro e w1 ⟨⟨A1, n1, c1, R1, rfl, hn1, ho1⟩, hb1⟩
    obtain rfl : n1 = n := by rw [length_sqTo] at hn1; exact hn1.symm
    have HO1 := Lib.hid (show OwnM w1 w.heap.size A1 c1 R1 (sqTo (negTo f l false 0) n1 n1) by rw [negTo_zero]; exact ho1)
    clear hn1 ho1
    go_wp2
    go_loopw [8] (fun i wr => ∃ k : Nat, k ≤ n1 ∧ i = .int .i64 k ∧ OwnM wr w.heap.size A1 c1 R1 (sqTo (negTo f l false k) n1 n1) ∧ Below w.heap.size w wr) (fun i _ => n1 - (intOf i).toNat)
    case atStart => exact ⟨0, Nat.zero_le _, rfl, HO1.out, hb1⟩
    case round =>
      obtain ⟨k, hk, rfl, ho, hB⟩ := hrel
      by_cases hlt : k < n1
      · obtain ⟨g, g', C, rfl, hc1, hc2, hfz, hlo, hgs, hset⟩ := ho.sq_at (i := k) (j := l) hlt hl
        have hv : negTo f l false k k l = f k l := by simp [negTo]
        rw [hv] at hc2
        have hpm := HF.out k l hlt hl
        have hw := wrap_neg hpm
        have hset' := hset (-f k l)
        rw [upd_col] at hset'
        have HS := Lib.hid hset'
        have HB2 := Lib.hid (hB.setCell (p := ⟨g', l, none⟩) hlo (.int .i64 (-f k l)))
        clear ho hset hset' hv hpm
        go_wp2
        go_region
        all_goals (try clear hw)
        all_goals go_wp2
        all_goals go_roundw
        case rel => exact ⟨k + 1, by omega, by go_num, HS.out.drew, HB2.out.drew⟩
        case measure => simp [intOf]; omega
      · obtain rfl : k = n1 := by omega
        rw [negTo_all] at ho
        have HO := Lib.hid ho
        have HL := Lib.hid (length_sqTo (negF f l false) k k)
        clear ho
        go_wp2
        go_ret
        exact ⟨⟨A1, k, c1, R1, rfl, HL.out, HO.out⟩, hB⟩
  · go_enter Try.func101, Try.ntmps101
    go_wp2_with fail
    refine (HC.out).mono ?_
    rintro e w1 ⟨⟨A1, n1, c1, R1, rfl, hn1, ho1⟩, hb1⟩
    obtain rfl : n1 = n := by rw [length_sqTo] at hn1; exact hn1.symm
    have HO1 := Lib.hid (show OwnM w1 w.heap.size A1 c1 R1 (sqTo (negTo f l true 0) n1 n1) by rw [negTo_zero]; exact ho1)
    clear hn1 ho1
    go_wp2
    go_loopw [8] (fun i wr => ∃ k : Nat, k ≤ n1 ∧ i = .int .i64 k ∧ OwnM wr w.heap.size A1 c1 R1 (sqTo (negTo f l true k) n1 n1) ∧ Below w.heap.size w wr) (fun i _ => n1 - (intOf i).toNat)
    case atStart => exact ⟨0, Nat.zero_le _, rfl, HO1.out, hb1⟩
    case round =>
      obtain ⟨k, hk, rfl, ho, hB⟩ := hrel
      by_cases hlt : k < n1
      · obtain ⟨g, g', C, rfl, hc1, hc2, hfz, hlo, hgs, hset⟩ := ho.sq_at (i := l) (j := k) hl hlt
        have hv : negTo f l true k l k = f l k := by simp [negTo]
        rw [hv] at hc2
        have hpm := HF.out l k hl hlt
        have hw := wrap_neg hpm
        have hset' := hset (-f l k)
        rw [upd_row] at hset'
        have HS := Lib.hid hset'
        have HB2 := Lib.hid (hB.setCell (p := ⟨g', k, none⟩) hlo (.int .i64 (-f l k)))
        clear ho hset hset' hv hpm
        go_wp2
        go_region
        all_goals (try clear hw)
        all_goals go_wp2
        all_goals go_roundw
        case rel => exact ⟨k + 1, by omega, by go_num, HS.out.drew, HB2.out.drew⟩
        case measure => simp [intOf]; omega
      · obtain rfl : k = n1 := by omega
        rw [negTo_all] at ho
        have HO := Lib.hid ho
        have HL := Lib.hid (length_sqTo (negF f l true) k k)
        clear ho
        go_wp2
        go_ret
        exact ⟨⟨A1, k, c1, R1, rfl, HL.out, HO.out⟩, hB⟩

/-! ### NegateLine -/

noncomputable def negateM (h : List (List Int)) (l : Int) (b : Bool) : List (List Int) := if validB h = true ∧ 0 ≤ l ∧ l ≤ (h.length : Int) - 1 then sqTo (negF (entry h) l.toNat b) h.length h.length else []
noncomputable def negateC (h : List (List Int)) (l : Int) : Int := if validB h = true then (if 0 ≤ l ∧ l ≤ (h.length : Int) - 1 then 0 else 2) else 1
theorem NegateLine_small (h : List (List Int)) (l : Int) (b : Bool) : (negateM h l b).length ≤ 1048576 ∧ tot (negateM h l b) ≤ 1048576 := by
  unfold negateM
  split
  · next hv =>
    have := (validB_iff.1 hv.1).1
    rw [length_sqTo, tot_sqTo]
    exact ⟨by omega, Nat.le_trans (Nat.mul_le_mul this.2 this.2) (by omega)⟩
  · simp [tot]

/-- The world behind the three boxes. -/
def boxes3 (w : World) (v1 v2 v3 : Value) : World := ((w.alloc (.cells #[v1] 22)).alloc (.cells #[v2] 2)).alloc (.cells #[v3] 4)

end Go.Proofs.Ytdneldecedbepaa
