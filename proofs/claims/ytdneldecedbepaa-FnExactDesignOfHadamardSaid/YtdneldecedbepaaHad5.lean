/-
  NormalHadamard: contracts of the program's and of the reference's functions. Conditions: those of each theorem.
-/
import Derived.Test.YtdneldecedbepaaHad4
namespace Go.Proofs.Ytdneldecedbepaa
open Go.RowKit
set_option linter.unusedVariables false
set_option linter.unusedSimpArgs false

def colF (f : Nat → Nat → Int) (k : Nat) : Nat → Nat → Int := fun x y => if y < k then f x y * f 0 y else f x y
def rwF (g : Nat → Nat → Int) (k : Nat) : Nat → Nat → Int := fun x y => if 1 ≤ x ∧ x < k then g x y * g x 0 else g x y
def normF (f : Nat → Nat → Int) : Nat → Nat → Int := fun x y => f x y * f 0 y * f x 0 * f 0 0
theorem pm_prod {x y : Int} (hx : x = 1 ∨ x = -1) (hy : y = 1 ∨ y = -1) : x * y = 1 ∨ x * y = -1 := by
  rcases hx with rfl | rfl <;> rcases hy with rfl | rfl <;> decide
theorem PmF.col {f : Nat → Nat → Int} {n : Nat} (h : PmF f n) (k : Nat) : PmF (colF f k) n := fun x y hx hy => by
  unfold colF
  split
  · exact pm_prod (h x y hx hy) (h 0 y (by omega) hy)
  · exact h x y hx hy
theorem PmF.rw_ {f : Nat → Nat → Int} {n : Nat} (h : PmF f n) (k : Nat) : PmF (rwF f k) n := fun x y hx hy => by
  unfold rwF
  split
  · exact pm_prod (h x y hx hy) (h x 0 hx (by omega))
  · exact h x y hx hy
theorem col_zero (f : Nat → Nat → Int) : colF f 0 = f := by funext x y; simp [colF]
theorem rw_one (g : Nat → Nat → Int) : rwF g 1 = g := by
  funext x y; unfold rwF; rw [if_neg (by omega)]
theorem col_at (f : Nat → Nat → Int) (k : Nat) : colF f k 0 k = f 0 k := by simp [colF]
theorem rw_at (g : Nat → Nat → Int) (k : Nat) : rwF g k k 0 = g k 0 := by unfold rwF; rw [if_neg (by omega)]
theorem col_neg {f : Nat → Nat → Int} {k : Nat} (h : f 0 k = -1) : negF (colF f k) k false = colF f (k + 1) := by
  funext x y
  unfold negF colF
  by_cases e : y = k
  · subst e
    simp [h]
  · by_cases hlt : y < k
    · simp [e, hlt, Nat.lt_succ_of_lt hlt]
    · have : ¬ y < k + 1 := by omega
      simp [e, hlt, this]
theorem col_pos {f : Nat → Nat → Int} {k : Nat} (h : f 0 k = 1) : colF f k = colF f (k + 1) := by
  funext x y
  unfold colF
  by_cases e : y = k
  · subst e; simp [h]
  · by_cases hlt : y < k
    · simp [hlt, Nat.lt_succ_of_lt hlt]
    · have : ¬ y < k + 1 := by omega
      simp [hlt, this]
theorem rw_neg {g : Nat → Nat → Int} {k : Nat} (hk : 1 ≤ k) (h : g k 0 = -1) : negF (rwF g k) k true = rwF g (k + 1) := by
  funext x y
  unfold negF rwF
  by_cases e : x = k
  · subst e
    rw [if_pos (by simp), if_neg (by omega), if_pos (by omega), h]; omega
  · rw [if_neg (by simpa using e)]
    by_cases hlt : 1 ≤ x ∧ x < k
    · rw [if_pos hlt, if_pos (by omega)]
    · rw [if_neg hlt, if_neg (by omega)]
theorem rw_pos {g : Nat → Nat → Int} {k : Nat} (hk : 1 ≤ k) (h : g k 0 = 1) : rwF g k = rwF g (k + 1) := by
  funext x y
  unfold rwF
  by_cases e : x = k
  · subst e
    rw [if_neg (by omega), if_pos (by omega), h]; omega
  · by_cases hlt : 1 ≤ x ∧ x < k
    · rw [if_pos hlt, if_pos (by omega)]
    · rw [if_neg hlt, if_neg (by omega)]
theorem norm_all {f : Nat → Nat → Int} {n : Nat} (h : PmF f n) (hn : 1 ≤ n) : sqTo (rwF (colF f n) n) n n = sqTo (normF f) n n :=
  sqTo_congr fun x y hx hy => by
    unfold rwF colF normF
    have h0 := h 0 0 (by omega) (by omega)
    by_cases hx1 : 1 ≤ x
    · rw [if_pos ⟨hx1, hx⟩, if_pos hy, if_pos (by omega), Int.mul_assoc (f x y * f 0 y)]
    · obtain rfl : x = 0 := by omega
      rw [if_neg (by omega), if_pos hy]
      have h1 := h 0 y (by omega) hy
      rcases h0 with h0 | h0 <;> rcases h1 with h1 | h1 <;> rw [h0, h1] <;> decide

set_option maxHeartbeats 1000000 in
theorem l15Normal_c (w : World) (A : Option Addr) (n c : Nat) (R : Spine) (f : Nat → Nat → Int) (hr : RdM w A c R (sqTo f n n)) (hf : PmF f n) (h1 : 1 ≤ n) (hn : n ≤ 1000) :
    Calls Try.prog 71 #[.slice A n c] w (PostM w (sqTo (normF f) n n)) := by
  have hcap : NilCap R n := by
    have := nilCap_of_rows hr (fun k hk => by rw [length_sqTo] at hk; rw [row_sqTo hk, length_rowTo]; omega)
    rwa [length_sqTo] at this
  have HC := Lib.hid (l17Own_c w A n c R (sqTo f n n) hr (length_sqTo f n n) hcap (by omega) (fun k hk => by rw [row_sqTo hk, length_rowTo]; omega))
  have HF := Lib.hid hf
  clear hr hcap hf
  go_enter Try.func71, Try.ntmps71
  go_wp2_with fail
  refine (HC.out).mono ?_
  rintro e w1 ⟨⟨A1, n1, c1, R1, rfl, hn1, ho1⟩, hb1⟩
  obtain rfl : n1 = n := by rw [length_sqTo] at hn1; exact hn1.symm
  have HO1 := Lib.hid (show OwnM w1 w.heap.size A1 c1 R1 (sqTo (colF f 0) n1 n1) by rw [col_zero]; exact ho1)
  clear hn1 ho1
  go_wp2
  go_loopw [3, 4] (fun o i wr => ∃ (k : Nat) (A' : Option Addr) (c' : Nat) (R' : Spine), k ≤ n1 ∧ i = .int .i64 k ∧ o = .slice A' n1 c' ∧ OwnM wr w.heap.size A' c' R' (sqTo (colF f k) n1 n1) ∧ Below w.heap.size w wr) (fun _ i _ => n1 - (intOf i).toNat)
  case atStart => exact ⟨0, A1, c1, R1, Nat.zero_le _, rfl, rfl, HO1.out, hb1⟩
  case round =>
    obtain ⟨k, A', c', R', hk, rfl, rfl, ho, hB⟩ := hrel
    by_cases hlt : k < n1
    · obtain ⟨g, g', C, rfl, hx1, hx2, _, _, _, _⟩ := ho.sq_at (i := 0) (j := k) (by omega) hlt
      rw [col_at] at hx2
      have hz := hB.size
      rcases HF.out 0 k (by omega) hlt with hv | hv
      · rw [hv] at hx2
        rw [col_pos hv] at ho
        have HO := Lib.hid ho
        clear ho hv
        go_wp2
        go_roundw
        case rel => exact ⟨k + 1, _, c', R', by omega, by go_num, rfl, HO.out, hB⟩
        case measure => simp [intOf]; omega
      · rw [hv] at hx2
        have hcall := l15Negate_c wr (some ⟨g, 0, none⟩) n1 c' R' (colF f k) k false ho.rd (HF.out.col k) hlt hn
        rw [col_neg hv] at hcall
        have HCl := Lib.hid hcall
        clear ho hv hcall
        go_wp2_with fail
        refine (HCl.out).mono ?_
        rintro e w2 ⟨⟨A2, n2, c2, R2, rfl, hn2, ho2⟩, hb2⟩
        obtain rfl : n2 = n1 := by rw [length_sqTo] at hn2; exact hn2.symm
        have HO := Lib.hid (ho2.lower hz)
        have hB2 : Below w.heap.size w w2 := hB.trans (hb2.mono hz)
        clear hn2 ho2
        go_wp2
        go_roundw
        case rel => exact ⟨k + 1, A2, c2, R2, by omega, by go_num, rfl, HO.out, hB2⟩
        case measure => simp [intOf]; omega
    · obtain rfl : k = n1 := by omega
      have HO2 := Lib.hid (show OwnM wr w.heap.size A' c' R' (sqTo (rwF (colF f k) 1) k k) by rw [rw_one]; exact ho)
      have HG := Lib.hid (HF.out.col k)
      clear ho
      go_wp2
      go_loopw [3, 5] (fun o i wr => ∃ (q : Nat) (A' : Option Addr) (c' : Nat) (R' : Spine), 1 ≤ q ∧ q ≤ k ∧ i = .int .i64 q ∧ o = .slice A' k c' ∧ OwnM wr w.heap.size A' c' R' (sqTo (rwF (colF f k) q) k k) ∧ Below w.heap.size w wr) (fun _ i _ => k - (intOf i).toNat)
      case atStart => exact ⟨1, A', c', R', by omega, by omega, rfl, rfl, HO2.out, hB⟩
      case round =>
        obtain ⟨q, A3, c3, R3, hq1, hq, rfl, rfl, ho3, hB3⟩ := hrel
        by_cases hlt : q < k
        · obtain ⟨g, g', C, rfl, hx1, hx2, _, _, _, _⟩ := ho3.sq_at (i := q) (j := 0) hlt (by omega)
          rw [rw_at] at hx2
          have hz := hB3.size
          rcases HG.out q 0 hlt (by omega) with hv | hv
          · rw [hv] at hx2
            rw [rw_pos hq1 hv] at ho3
            have HO := Lib.hid ho3
            clear ho3 hv
            go_wp2
            go_roundw
            case rel => exact ⟨q + 1, _, c3, R3, by omega, by omega, by go_num, rfl, HO.out, hB3⟩
            case measure => simp [intOf]; omega
          · rw [hv] at hx2
            have hcall := l15Negate_c wr (some ⟨g, 0, none⟩) k c3 R3 (rwF (colF f k) q) q true ho3.rd (HG.out.rw_ q) hlt hn
            rw [rw_neg hq1 hv] at hcall
            have HCl := Lib.hid hcall
            clear ho3 hv hcall
            go_wp2_with fail
            refine (HCl.out).mono ?_
            rintro e w2 ⟨⟨A2, n2, c2, R2, rfl, hn2, ho2⟩, hb2⟩
            obtain rfl : n2 = k := by rw [length_sqTo] at hn2; exact hn2.symm
            have HO := Lib.hid (ho2.lower hz)
            have hB2 : Below w.heap.size w w2 := hB3.trans (hb2.mono hz)
            clear hn2 ho2
            go_wp2
            go_roundw
            case rel => exact ⟨q + 1, A2, c2, R2, by omega, by omega, by go_num, rfl, HO.out, hB2⟩
            case measure => simp [intOf]; omega
        · obtain rfl : q = k := by omega
          rw [norm_all HF.out hq1] at ho3
          have HO := Lib.hid ho3
          have HL := Lib.hid (length_sqTo (normF f) q q)
          clear ho3
          go_wp2
          go_ret
          exact ⟨⟨A3, q, c3, R3, rfl, HL.out, HO.out⟩, hB3⟩

noncomputable def normM (h : List (List Int)) : List (List Int) := if validB h = true then sqTo (normF (entry h)) h.length h.length else []
theorem NormalHadamard_small (h : List (List Int)) : (normM h).length ≤ 1048576 ∧ tot (normM h) ≤ 1048576 := by
  unfold normM
  split
  · next hv =>
    have := (validB_iff.1 hv).1
    rw [length_sqTo, tot_sqTo]
    exact ⟨by omega, Nat.le_trans (Nat.mul_le_mul this.2 this.2) (by omega)⟩
  · simp [tot]

set_option maxHeartbeats 1000000 in
/-- The literal of normalHadamard. -/
theorem normAt_c (W : World) (B : Nat) (A : Option Addr) (n c : Nat) (R : Spine) (f : Nat → Nat → Int) (x y : Nat) (hx : x < n) (hy : y < n) (hn : n ≤ 1000) (hf : PmF f n)
    (hcell : W.cell? ⟨B, 0, none⟩ = some (.slice A n c)) (hr : RdM W A c R (sqTo f n n)) :
    Calls Try.prog 105 #[.int .i64 (x : Int), .int .i64 (y : Int), .pointer (some ⟨B, 0, none⟩)] W (PostV W (.int .i64 (normF f x y))) := by
  obtain ⟨b, off, b1, o1, C1, rfl, _, hr1, _, hv1⟩ := hr.sq_at (i := x) (j := y) hx hy
  obtain ⟨_, _, b2, o2, C2, e, _, hr2, _, hv2⟩ := hr.sq_at (i := 0) (j := y) (by omega) hy
  injection e with e
  injection e with e1 e2
  subst e1 e2
  obtain ⟨_, _, b3, o3, C3, e, _, hr3, _, hv3⟩ := hr.sq_at (i := x) (j := 0) hx (by omega)
  injection e with e
  injection e with e1 e2
  subst e1 e2
  obtain ⟨_, _, b4, o4, C4, e, _, hr4, _, hv4⟩ := hr.sq_at (i := 0) (j := 0) (by omega) (by omega)
  injection e with e
  injection e with e1 e2
  subst e1 e2
  have e13 := hr1.symm.trans hr3
  have e24 := hr2.symm.trans hr4
  simp only [Option.some.injEq, Value.slice.injEq, Addr.mk.injEq, and_true, true_and] at e13 e24
  obtain ⟨⟨rfl, rfl⟩, rfl⟩ := e13
  obtain ⟨⟨rfl, rfl⟩, rfl⟩ := e24
  have p1 := hf x y hx hy
  have p2 := hf 0 y (by omega) hy
  have p3 := hf x 0 hx (by omega)
  have p4 := hf 0 0 (by omega) (by omega)
  have q1 := pm_prod p1 p2
  have q2 := pm_prod q1 p3
  have q3 := pm_prod q2 p4
  have w1 : IntKind.i64.wrap (f x y * f 0 y) = f x y * f 0 y := IntWalk.i64_in _ (by omega)
  have w2 : IntKind.i64.wrap (f x y * f 0 y * f x 0) = f x y * f 0 y * f x 0 := IntWalk.i64_in _ (by omega)
  have w3 : IntKind.i64.wrap (f x y * f 0 y * f x 0 * f 0 0) = f x y * f 0 y * f x 0 * f 0 0 := IntWalk.i64_in _ (by omega)
  simp only [Nat.add_zero] at hr2 hv3 hv4
  clear hr3 hr4 hr p1 p2 p3 p4 q1 q2 q3 hf
  go_enter Try.func105, Try.ntmps105
  go_wp2
  go_quiet (fail)
  clear w1 w2 w3
  go_wp2
  go_ret
  exact ⟨rfl, below_drewN (Below.refl _ _) _⟩

set_option maxHeartbeats 1000000 in
theorem implNormal_c (w : World) (A : Option Addr) (n c : Nat) (R : Spine) (f : Nat → Nat → Int) (hr : RdM w A c R (sqTo f n n)) (hf : PmF f n) (hn : n ≤ 1000) :
    Calls Try.prog 73 #[.slice A n c] w (PostM w (sqTo (normF f) n n)) := by
  have hB0 : Below w.heap.size w (w.alloc (.cells #[.slice A n c] 22)) := (Below.refl _ _).alloc (Nat.le_refl _) _
  have hmf := makeFunc_run
  have HR := Lib.hid (hr.below hB0)
  have HF := Lib.hid hf
  have eg := Lib.hid (enters_of Try.func105 (by kernel_rfl) rfl)
  have HX := Lib.hid (show (w.alloc (.cells #[.slice A n c] 22)).cell? ⟨w.heap.size, 0, none⟩ = some (.slice A n c) from World.cell?_alloc_at _ _ _ _ rfl)
  clear hr hf
  go_enter Try.func73, Try.ntmps73
  go_wp2_with fail
  refine (sizeS_c _ _ _ _).mono ?_
  rintro e w' ⟨rfl, rfl⟩
  go_wp2_with fail
  refine (filledSquare_c (w.alloc (.cells #[.slice A n c] 22)) (n : Int) n 105 #[.pointer (some ⟨w.heap.size, 0, none⟩)] (normF f) eg.out (by omega) (by omega) (fun W x y hx hy hBW =>
    normAt_c W w.heap.size A n c R f x y hx hy hn HF.out ((hBW.cell (p := ⟨w.heap.size, 0, none⟩) (by simp)).trans HX.out) (HR.out.below hBW))).mono ?_
  rintro e w2 ⟨⟨A2, n2, c2, R2, rfl, hn2', ho2⟩, hb2⟩
  have HL := Lib.hid hn2'
  have HO := Lib.hid (ho2.lower (lo' := w.heap.size) (by simp))
  have hB : Below w.heap.size w w2 := hB0.trans (hb2.mono (by simp))
  clear hn2' ho2
  go_wp2
  go_ret
  exact ⟨⟨A2, n2, c2, R2, rfl, HL.out, HO.out⟩, hB⟩

end Go.Proofs.Ytdneldecedbepaa
