/-
  NegateLine and NormalHadamard: contracts of the program's and of the reference's functions. Conditions: those of each theorem.
-/
import Derived.Test.YtjoihaghoahnlaaHad3
namespace Go.Proofs.Ytjoihaghoahnlaa
open Go.RowKit
set_option linter.unusedVariables false
set_option linter.unusedSimpArgs false

/-- A line's signs turned. -/
def negF (f : Nat → Nat → Int) (l : Nat) (b : Bool) : Nat → Nat → Int := fun x y => if (if b = true then x else y) = l then -f x y else f x y
/-- The same in its first k places. -/
def negTo (f : Nat → Nat → Int) (l : Nat) (b : Bool) (k : Nat) : Nat → Nat → Int :=
  fun x y => if (if b = true then x else y) = l ∧ (if b = true then y else x) < k then -f x y else f x y
theorem negTo_zero (f : Nat → Nat → Int) (l : Nat) (b : Bool) : negTo f l b 0 = f := by
  funext x y; simp [negTo]
theorem negTo_all (f : Nat → Nat → Int) (l : Nat) (b : Bool) (n : Nat) : sqTo (negTo f l b n) n n = sqTo (negF f l b) n n :=
  sqTo_congr fun x y hx hy => by
    unfold negTo negF
    cases b <;> simp [hx, hy]
theorem upd_row (f : Nat → Nat → Int) (l k : Nat) : upd (negTo f l true k) l k (-f l k) = negTo f l true (k + 1) := by
  funext x y
  unfold upd negTo
  by_cases h1 : x = l
  · subst h1
    by_cases h2 : y = k
    · subst h2; simp
    · by_cases h3 : y < k
      · rw [if_neg (by omega), if_pos (by simp [h3]), if_pos (by simp; omega)]
      · rw [if_neg (by omega), if_neg (by simp; omega), if_neg (by simp; omega)]
  · simp [h1]
theorem upd_col (f : Nat → Nat → Int) (l k : Nat) : upd (negTo f l false k) k l (-f k l) = negTo f l false (k + 1) := by
  funext x y
  unfold upd negTo
  by_cases h1 : y = l
  · subst h1
    by_cases h2 : x = k
    · subst h2; simp
    · by_cases h3 : x < k
      · rw [if_neg (by omega), if_pos (by simp [h3]), if_pos (by simp; omega)]
      · rw [if_neg (by omega), if_neg (by simp; omega), if_neg (by simp; omega)]
  · simp [h1]
theorem PmF.neg {f : Nat → Nat → Int} {n : Nat} (h : PmF f n) (l : Nat) (b : Bool) : PmF (negF f l b) n := fun x y hx hy => by
  have := h x y hx hy
  unfold negF
  split <;> omega
theorem wrap_neg {v : Int} (h : v = 1 ∨ v = -1) : IntKind.i64.wrap (-v) = -v := IntWalk.i64_in _ (by omega)

set_option maxHeartbeats 1000000 in
theorem l15Negate_c (w : World) (A : Option Addr) (n c : Nat) (R : Spine) (f : Nat → Nat → Int) (l : Nat) (bl : Bool) (hr : RdM w A c R (sqTo f n n)) (hf : PmF f n) (hl : l < n) (hn : n ≤ 1000) :
    Calls Try.prog 86 #[.slice A n c, .int .i64 (l : Int), .bool bl] w (PostM w (sqTo (negF f l bl) n n)) := by
  have hcap : NilCap R n := by
    have := nilCap_of_rows hr (fun k hk => by rw [length_sqTo] at hk; rw [row_sqTo hk, length_rowTo]; omega)
    rwa [length_sqTo] at this
  have HC := Lib.hid (l17Own_c w A n c R (sqTo f n n) hr (length_sqTo f n n) hcap (by omega) (fun k hk => by rw [row_sqTo hk, length_rowTo]; omega))
  have HF := Lib.hid hf
  clear hr hcap hf
  cases bl
  · go_enter Try.func86, Try.ntmps86
    go_wp2_with fail
    refine (HC.out).mono ?_
    rintro e w1 ⟨⟨A1, n1, c1, R1, rfl, hn1, ho1⟩, hb1⟩
    obtain rfl : n1 = n := by rw [length_sqTo] at hn1; exact hn1.symm
    have HO1 := Lib.hid (show OwnM w1 w.heap.size A1 c1 R1 (sqTo (negTo f l false 0) n1 n1) by rw [negTo_zero]; exact ho1)
    clear hn1 ho1
    go_wp2
    go_loopw [8] (fun i wr => ∃ k : Nat, k ≤ n1 ∧ i = .int .i64 k ∧ OwnM wr w.heap.size A1 c1 R1 (sqTo (negTo f l false k) n1 n1) ∧ Below w.heap.size w wr) (fun i _ => n1 - (intOf i).toNat)
    case atStart => exact ⟨0, Nat.zero_le _, rfl, HO1.out, hb1⟩
    case round =>
      obtain ⟨k, hk, rfl, ho, hB⟩ := hrel
      by_cases hlt : k < n1
      · obtain ⟨g, g', C, rfl, hc1, hc2, hfz, hlo, hgs, hset⟩ := ho.sq_at (i := k) (j := l) hlt hl
        have hv : negTo f l false k k l = f k l := by simp [negTo]
        rw [hv] at hc2
        have hpm := HF.out k l hlt hl
        have hw := wrap_neg hpm
        have hset' := hset (-f k l)
        rw [upd_col] at hset'
        have HS := Lib.hid hset'
        have HB2 := Lib.hid (hB.setCell (p := ⟨g', l, none⟩) hlo (.int .i64 (-f k l)))
        clear ho hset hset' hv hpm
        go_wp2
        go_region
        all_goals (try clear hw)
        all_goals go_wp2
        all_goals go_roundw
        case rel => exact ⟨k + 1, by omega, by go_num, HS.out.drew, HB2.out.drew⟩
        case measure => simp [intOf]; omega
      · obtain rfl : k = n1 := by omega
        rw [negTo_all] at ho
        have HO := Lib.hid ho
        have HL := Lib.hid (length_sqTo (negF f l false) k k)
        clear ho
        go_wp2
        go_ret
        exact ⟨⟨A1, k, c1, R1, rfl, HL.out, HO.out⟩, hB⟩
  · go_enter Try.func86, Try.ntmps86
    go_wp2_with fail
    refine (HC.out).mono ?_
    rintro e w1 ⟨⟨A1, n1, c1, R1, rfl, hn1, ho1⟩, hb1⟩
    obtain rfl : n1 = n := by rw [length_sqTo] at hn1; exact hn1.symm
    have HO1 := Lib.hid (show OwnM w1 w.heap.size A1 c1 R1 (sqTo (negTo f l true 0) n1 n1) by rw [negTo_zero]; exact ho1)
    clear hn1 ho1
    go_wp2
    go_loopw [8] (fun i wr => ∃ k : Nat, k ≤ n1 ∧ i = .int .i64 k ∧ OwnM wr w.heap.size A1 c1 R1 (sqTo (negTo f l true k) n1 n1) ∧ Below w.heap.size w wr) (fun i _ => n1 - (intOf i).toNat)
    case atStart => exact ⟨0, Nat.zero_le _, rfl, HO1.out, hb1⟩
    case round =>
      obtain ⟨k, hk, rfl, ho, hB⟩ := hrel
      by_cases hlt : k < n1
      · obtain ⟨g, g', C, rfl, hc1, hc2, hfz, hlo, hgs, hset⟩ := ho.sq_at (i := l) (j := k) hl hlt
        have hv : negTo f l true k l k = f l k := by simp [negTo]
        rw [hv] at hc2
        have hpm := HF.out l k hl hlt
        have hw := wrap_neg hpm
        have hset' := hset (-f l k)
        rw [upd_row] at hset'
        have HS := Lib.hid hset'
        have HB2 := Lib.hid (hB.setCell (p := ⟨g', k, none⟩) hlo (.int .i64 (-f l k)))
        clear ho hset hset' hv hpm
        go_wp2
        go_region
        all_goals (try clear hw)
        all_goals go_wp2
        all_goals go_roundw
        case rel => exact ⟨k + 1, by omega, by go_num, HS.out.drew, HB2.out.drew⟩
        case measure => simp [intOf]; omega
      · obtain rfl : k = n1 := by omega
        rw [negTo_all] at ho
        have HO := Lib.hid ho
        have HL := Lib.hid (length_sqTo (negF f l true) k k)
        clear ho
        go_wp2
        go_ret
        exact ⟨⟨A1, k, c1, R1, rfl, HL.out, HO.out⟩, hB⟩

/-! ### NegateLine -/

noncomputable def negateM (h : List (List Int)) (l : Int) (b : Bool) : List (List Int) := if validB h = true ∧ 0 ≤ l ∧ l ≤ (h.length : Int) - 1 then sqTo (negF (entry h) l.toNat b) h.length h.length else []
noncomputable def negateC (h : List (List Int)) (l : Int) : Int := if validB h = true then (if 0 ≤ l ∧ l ≤ (h.length : Int) - 1 then 0 else 2) else 1
theorem NegateLine_small (h : List (List Int)) (l : Int) (b : Bool) : (negateM h l b).length ≤ 1048576 ∧ tot (negateM h l b) ≤ 1048576 := by
  unfold negateM
  split
  · next hv =>
    have := (validB_iff.1 hv.1).1
    rw [length_sqTo, tot_sqTo]
    exact ⟨by omega, Nat.le_trans (Nat.mul_le_mul this.2 this.2) (by omega)⟩
  · simp [tot]

set_option maxHeartbeats 1000000 in
theorem specNegateLine_c (w : World) (A : Option Addr) (n c : Nat) (R : Spine) (h : List (List Int)) (hr : RdM w A c R h) (hn : h.length = n) (hw : WfM h) (hz : (n : Int) + (tot h : Nat) ≤ 1048576)
    (l : Int) (hb : -9223372036854775808 ≤ l ∧ l ≤ 9223372036854775807) (b : Bool) :
    Calls Try.prog 48 #[.slice A n c, .int .i64 l, .bool b] w (PostMC w (negateM h l b) (negateC h l)) := by
  have hcall := l15Ok_c w A n c R h hr hn
  rcases hv : validB h with _ | _
  · rw [hv] at hcall
    rw [show negateM h l b = [] by simp [negateM, hv], show negateC h l = 1 by simp [negateC, hv]]
    have HC := Lib.hid hcall
    clear hcall hv hr hn
    go_enter Try.func48, Try.ntmps48
    go_wp2_with fail
    refine (HC.out).mono ?_
    rintro e w1 ⟨rfl, hb⟩
    go_wp2
    go_ret2
    exact ⟨⟨none, 0, 0, fun _ => (none, 0), rfl, rfl, OwnM.nil_ _ _ _⟩, hb⟩
  · rw [hv] at hcall
    obtain ⟨hs, hpm, hn1, hn2⟩ := (validB_iff.1 hv).sq hn
    have hr2 : RdM w A c R (sqTo (entry h) n n) := by rw [← hs]; exact hr
    by_cases hl : 0 ≤ l ∧ l ≤ (n : Int) - 1
    · rw [show negateM h l b = sqTo (negF (entry h) l.toNat b) n n by simp [negateM, hv, hn, hl], show negateC h l = 0 by simp [negateC, hv, hn, hl]]
      obtain ⟨k, rfl⟩ := Int.eq_ofNat_of_zero_le hl.1
      rw [Int.toNat_natCast]
      have hw' := in_c (k : Int) 0 ((n : Int) - 1)
      rw [inB_true.2 hl] at hw'
      have HW := Lib.hid hw'
      have HC := Lib.hid hcall
      have HR := Lib.hid hr2
      have HP := Lib.hid hpm
      have hk : k < n := by omega
      clear hcall hv hs hr hn hr2 hpm hl hw'
      go_enter Try.func48, Try.ntmps48
      go_wp2_with fail
      refine (HC.out).mono ?_
      rintro e w1 ⟨rfl, hb1⟩
      go_wp2_with fail
      refine (HW.out _).mono ?_
      rintro e w' ⟨rfl, rfl⟩
      go_wp2_with fail
      refine (l15Negate_c w1 A n c R (entry h) k b (HR.out.below hb1) HP.out hk (by omega)).mono ?_
      rintro e w2 ⟨⟨A2, n2, c2, R2, rfl, hn2', ho2⟩, hb2⟩
      have HL := Lib.hid hn2'
      have HO := Lib.hid (ho2.lower hb1.size)
      have hB : Below w.heap.size w w2 := hb1.trans (hb2.mono hb1.size)
      clear hn2' ho2
      go_wp2
      go_ret2
      exact ⟨⟨A2, n2, c2, R2, rfl, HL.out, HO.out⟩, hB⟩
    · rw [show negateM h l b = [] by simp only [negateM, hn]; rw [if_neg (fun h => hl h.2)], show negateC h l = 2 by simp only [negateC, hn, hv]; rw [if_pos trivial, if_neg hl]]
      have hw' := in_c l 0 ((n : Int) - 1)
      rw [inB_false.2 hl] at hw'
      have HW := Lib.hid hw'
      have HC := Lib.hid hcall
      clear hcall hv hs hr hn hr2 hpm hl hw'
      go_enter Try.func48, Try.ntmps48
      go_wp2_with fail
      refine (HC.out).mono ?_
      rintro e w1 ⟨rfl, hb1⟩
      go_wp2_with fail
      refine (HW.out _).mono ?_
      rintro e w' ⟨rfl, rfl⟩
      go_wp2
      go_ret2
      exact ⟨⟨none, 0, 0, fun _ => (none, 0), rfl, rfl, OwnM.nil_ _ _ _⟩, hb1⟩

/-- The literal of NegateLine: the element, its sign turned on the line. -/
theorem negAt_c (W : World) (B1 B2 B3 : Nat) (A : Option Addr) (n c : Nat) (R : Spine) (f : Nat → Nat → Int) (x y l : Nat) (bl : Bool) (hx : x < n) (hy : y < n) (hn : n ≤ 1000) (hf : PmF f n)
    (hc1 : W.cell? ⟨B1, 0, none⟩ = some (.bool bl)) (hc2 : W.cell? ⟨B2, 0, none⟩ = some (.int .i64 (l : Int))) (hc3 : W.cell? ⟨B3, 0, none⟩ = some (.slice A n c)) (hr : RdM W A c R (sqTo f n n)) :
    Calls Try.prog 87 #[.int .i64 (x : Int), .int .i64 (y : Int), .pointer (some ⟨B1, 0, none⟩), .pointer (some ⟨B2, 0, none⟩), .pointer (some ⟨B3, 0, none⟩)] W (PostV W (.int .i64 (negF f l bl x y))) := by
  obtain ⟨b, off, b2, o2, C2, rfl, _, hcr, _, hcx⟩ := hr.sq_at (i := x) (j := y) hx hy
  have hv := hf x y hx hy
  obtain ⟨hv1, hv2⟩ : -1 ≤ f x y ∧ f x y ≤ 1 := by omega
  clear hr hf hv
  cases bl
  · by_cases e : y = l
    · subst e
      have he : ((y : Int) == (y : Int)) = true := by simp
      rw [show negF f y false x y = -f x y by simp [negF]]
      go_enter Try.func87, Try.ntmps87
      go_wp2
      go_ret
      exact ⟨rfl, Below.refl _ _⟩
    · have he : ((y : Int) == (l : Int)) = false := by simp; omega
      have he' : (y == l) = false := by simp [e]
      rw [show negF f l false x y = f x y by simp [negF, e]]
      clear e
      go_enter Try.func87, Try.ntmps87
      go_wp2
      go_ret
      exact ⟨rfl, Below.refl _ _⟩
  · by_cases e : x = l
    · subst e
      have he : ((x : Int) == (x : Int)) = true := by simp
      rw [show negF f x true x y = -f x y by simp [negF]]
      go_enter Try.func87, Try.ntmps87
      go_wp2
      go_ret
      exact ⟨rfl, Below.refl _ _⟩
    · have he : ((x : Int) == (l : Int)) = false := by simp; omega
      have he' : (x == l) = false := by simp [e]
      rw [show negF f l true x y = f x y by simp [negF, e]]
      clear e
      go_enter Try.func87, Try.ntmps87
      go_wp2
      go_ret
      exact ⟨rfl, Below.refl _ _⟩

/-- The world behind the three boxes. -/
def boxes3 (w : World) (v1 v2 v3 : Value) : World := ((w.alloc (.cells #[v1] 27)).alloc (.cells #[v2] 2)).alloc (.cells #[v3] 4)

set_option maxHeartbeats 2000000 in
theorem implNegateLine_c (w : World) (A : Option Addr) (n c : Nat) (R : Spine) (h : List (List Int)) (hr : RdM w A c R h) (hn : h.length = n) (hw : WfM h) (hz : (n : Int) + (tot h : Nat) ≤ 1048576)
    (l : Int) (hb : -9223372036854775808 ≤ l ∧ l ≤ 9223372036854775807) (b : Bool) :
    Calls Try.prog 49 #[.slice A n c, .int .i64 l, .bool b] w (PostMC w (negateM h l b) (negateC h l)) := by
  have hB0 : Below w.heap.size w (((w.alloc (.cells #[.slice A n c] 27)).alloc (.cells #[.int .i64 l] 2)).alloc (.cells #[.bool b] 4)) :=
    (((Below.refl _ _).alloc (Nat.le_refl _) _).alloc (by simp) _).alloc (by simp; omega) _
  have hcall := implValid_c (((w.alloc (.cells #[.slice A n c] 27)).alloc (.cells #[.int .i64 l] 2)).alloc (.cells #[.bool b] 4)) A n c R h (hr.below hB0) hn (by omega)
  have hmf := makeFunc_run
  have hx1 : (((w.alloc (.cells #[.slice A n c] 27)).alloc (.cells #[.int .i64 l] 2)).alloc (.cells #[.bool b] 4)).cell? ⟨w.heap.size, 0, none⟩ = some (.slice A n c) := by
    rw [World.cell?_alloc_past _ _ _ (by simp; omega), World.cell?_alloc_past _ _ _ (by simp), World.cell?_alloc_at _ _ _ _ rfl]; rfl
  have hx2 : (((w.alloc (.cells #[.slice A n c] 27)).alloc (.cells #[.int .i64 l] 2)).alloc (.cells #[.bool b] 4)).cell? ⟨w.heap.size + 1, 0, none⟩ = some (.int .i64 l) := by
    rw [World.cell?_alloc_past _ _ _ (by simp), World.cell?_alloc_at _ _ _ _ (by simp)]; rfl
  have hx3 : (((w.alloc (.cells #[.slice A n c] 27)).alloc (.cells #[.int .i64 l] 2)).alloc (.cells #[.bool b] 4)).cell? ⟨w.heap.size + 1 + 1, 0, none⟩ = some (.bool b) := by
    rw [World.cell?_alloc_at _ _ _ _ (by simp)]; rfl
  have HX1 := Lib.hid hx1
  have HX2 := Lib.hid hx2
  have HX3 := Lib.hid hx3
  clear hx1 hx2 hx3
  rcases hv : validB h with _ | _
  · rw [hv] at hcall
    rw [show negateM h l b = [] by simp [negateM, hv], show negateC h l = 1 by simp [negateC, hv]]
    have HC := Lib.hid hcall
    clear hcall hv hr hn
    go_enter Try.func49, Try.ntmps49
    go_wp2_with fail
    refine (HC.out).mono ?_
    rintro e w1 ⟨rfl, hb⟩
    have hB1 : Below w.heap.size w w1 := hB0.trans (hb.mono (by simp; omega))
    go_wp2
    go_ret2
    exact ⟨⟨none, 0, 0, fun _ => (none, 0), rfl, rfl, OwnM.nil_ _ _ _⟩, hB1⟩
  · rw [hv] at hcall
    obtain ⟨hs, hpm, hn1, hn2⟩ := (validB_iff.1 hv).sq hn
    have hr2 : RdM (((w.alloc (.cells #[.slice A n c] 27)).alloc (.cells #[.int .i64 l] 2)).alloc (.cells #[.bool b] 4)) A c R (sqTo (entry h) n n) := by rw [← hs]; exact hr.below hB0
    have HC := Lib.hid hcall
    have HR := Lib.hid hr2
    have HP := Lib.hid hpm
    have hsub : IntKind.i64.wrap ((n : Int) - 1) = (n : Int) - 1 := IntWalk.i64_in _ (by omega)
    by_cases hl : 0 ≤ l ∧ l ≤ (n : Int) - 1
    · rw [show negateM h l b = sqTo (negF (entry h) l.toNat b) n n by simp [negateM, hv, hn, hl], show negateC h l = 0 by simp [negateC, hv, hn, hl]]
      obtain ⟨k, rfl⟩ := Int.eq_ofNat_of_zero_le hl.1
      rw [Int.toNat_natCast]
      have hw' := within_c (k : Int) 0 ((n : Int) - 1)
      rw [inB_true.2 hl] at hw'
      have HW := Lib.hid hw'
      have hk : k < n := by omega
      have eg := Lib.hid (enters_of Try.func87 (by kernel_rfl) rfl)
      clear hcall hv hs hr hn hr2 hpm hl hw'
      go_enter Try.func49, Try.ntmps49
      go_wp2_with fail
      refine (HC.out).mono ?_
      rintro e w1 ⟨rfl, hb1⟩
      have hc1 : w1.cell? ⟨w.heap.size, 0, none⟩ = some (.slice A n c) := (hb1.cell (p := ⟨w.heap.size, 0, none⟩) (by simp; omega)).trans HX1.out
      have hc2 : w1.cell? ⟨w.heap.size + 1, 0, none⟩ = some (.int .i64 (k : Int)) := (hb1.cell (p := ⟨w.heap.size + 1, 0, none⟩) (by simp)).trans HX2.out
      have hc3 : w1.cell? ⟨w.heap.size + 1 + 1, 0, none⟩ = some (.bool b) := (hb1.cell (p := ⟨w.heap.size + 1 + 1, 0, none⟩) (by simp)).trans HX3.out
      have hs1 : w.heap.size + 1 + 1 + 1 ≤ w1.heap.size := by have := hb1.size; simpa using this
      have HR1 := Lib.hid (HR.out.below hb1)
      have hB1 : Below w.heap.size w w1 := hB0.trans (hb1.mono (by simp; omega))
      go_wp2_with fail
      go_quiet ((first | (go_at_call 64; exact quiet_w (sizeS_c _ _ _ _)) | (go_at_call 55; exact quiet_w (HW.out _))))
      clear hsub
      go_wp2_with fail
      refine (sizeS_c _ _ _ _).mono ?_
      rintro e w' ⟨rfl, rfl⟩
      go_wp2_with fail
      refine (filledSquare_c (w1.drewN nq) (n : Int) n 87 #[.pointer (some ⟨w.heap.size + 1 + 1, 0, none⟩), .pointer (some ⟨w.heap.size + 1, 0, none⟩), .pointer (some ⟨w.heap.size, 0, none⟩)] (negF (entry h) k b) eg.out (by omega) (by omega) (fun W x y hx hy hBW =>
        negAt_c W (w.heap.size + 1 + 1) (w.heap.size + 1) w.heap.size A n c R (entry h) x y k b hx hy (by omega) HP.out
          ((hBW.cell (p := ⟨w.heap.size + 1 + 1, 0, none⟩) (by show w.heap.size + 1 + 1 < w1.heap.size; omega)).trans hc3)
          ((hBW.cell (p := ⟨w.heap.size + 1, 0, none⟩) (by show w.heap.size + 1 < w1.heap.size; omega)).trans hc2)
          ((hBW.cell (p := ⟨w.heap.size, 0, none⟩) (by show w.heap.size < w1.heap.size; omega)).trans hc1) ((HR1.out.drewN nq).below hBW))).mono ?_
      rintro e w2 ⟨⟨A2, n2, c2, R2, rfl, hn2', ho2⟩, hb2⟩
      have HL := Lib.hid hn2'
      have HO := Lib.hid (ho2.lower (lo' := w.heap.size) (by show _ ≤ w1.heap.size; omega))
      have hB : Below w.heap.size w w2 := (below_drewN hB1 _).trans (hb2.mono (by show _ ≤ w1.heap.size; omega))
      clear hn2' ho2
      go_wp2
      go_ret2
      exact ⟨⟨A2, n2, c2, R2, rfl, HL.out, HO.out⟩, hB⟩
    · rw [show negateM h l b = [] by simp only [negateM, hn]; rw [if_neg (fun h => hl h.2)], show negateC h l = 2 by simp only [negateC, hn, hv]; rw [if_pos trivial, if_neg hl]]
      have hw' := within_c l 0 ((n : Int) - 1)
      rw [inB_false.2 hl] at hw'
      have HW := Lib.hid hw'
      clear hcall hv hs hr hn hr2 hpm hl hw'
      go_enter Try.func49, Try.ntmps49
      go_wp2_with fail
      refine (HC.out).mono ?_
      rintro e w1 ⟨rfl, hb1⟩
      have hc1 : w1.cell? ⟨w.heap.size, 0, none⟩ = some (.slice A n c) := (hb1.cell (p := ⟨w.heap.size, 0, none⟩) (by simp; omega)).trans HX1.out
      have hc2 : w1.cell? ⟨w.heap.size + 1, 0, none⟩ = some (.int .i64 l) := (hb1.cell (p := ⟨w.heap.size + 1, 0, none⟩) (by simp)).trans HX2.out
      have hB1 : Below w.heap.size w w1 := hB0.trans (hb1.mono (by simp; omega))
      go_wp2_with fail
      go_quiet ((first | (go_at_call 64; exact quiet_w (sizeS_c _ _ _ _)) | (go_at_call 55; exact quiet_w (HW.out _))))
      clear hsub
      go_wp2
      go_ret2
      exact ⟨⟨none, 0, 0, fun _ => (none, 0), rfl, rfl, OwnM.nil_ _ _ _⟩, below_drewN hB1 _⟩
end Go.Proofs.Ytjoihaghoahnlaa
