/-
  DesignOfSchedule of the program. Conditions: those of each theorem.
-/
import Derived.Test.YtamklliaibfljaaDsA
import Derived.Test.YtamklliaibfljaaSch
import Derived.Test.YtamklliaibfljaaBsr
namespace Go.Proofs.Ytamklliaibfljaa
open Go.RowKit
set_option linter.unusedVariables false
set_option linter.unusedSimpArgs false

/-- It returned a design and slices of slices of its own, apart from each other, and a code. -/
def PostDMC (w : World) (p : Int) (xss yss : List (List Int)) (k : Int) (e : Ending) (w' : World) : Prop :=
  (∃ A n c R B m d T mid, e = .returned (.tuple #[.agg #[.int .i64 p, .slice A n c], .slice B m d, .int .i64 k]) ∧ xss.length = n ∧ yss.length = m ∧ w.heap.size ≤ mid ∧ mid ≤ w'.heap.size ∧ InM w' w.heap.size mid A c R xss ∧ InM w' mid w'.heap.size B d T yss) ∧ Below w.heap.size w w'
theorem InM.lower {w : World} {lo lo' hi : Nat} {A : Option Addr} {c : Nat} {R : Spine} {xss : List (List Int)} (h : InM w lo hi A c R xss) (hl : lo' ≤ lo) : InM w lo' hi A c R xss := ⟨h.own.lower hl, h.top, h.tops⟩
theorem InM.higher {w : World} {lo hi hi' : Nat} {A : Option Addr} {c : Nat} {R : Spine} {xss : List (List Int)} (h : InM w lo hi A c R xss) (hl : hi ≤ hi') : InM w lo hi' A c R xss := ⟨h.own, fun g e => Nat.lt_of_lt_of_le (h.top g e) hl, fun k hk g e => Nat.lt_of_lt_of_le (h.tops k hk g e) hl⟩
theorem in_set2 {w : World} {B lo hi : Nat} {A : Option Addr} {c : Nat} {R : Spine} {xss : List (List Int)} (h : InM w lo hi A c R xss) (hl : B < lo) (u0 u1 : Value) : InM ((w.setCell ⟨B, 0, none⟩ u0).setCell ⟨B, 1, none⟩ u1) lo hi A c R xss :=
  h.step fun k h1 h2 => by rw [Below.heap_setCell _ _ _ _ (by show k ≠ B; omega), Below.heap_setCell _ _ _ _ (by show k ≠ B; omega)]

set_option maxRecDepth 100000 in
set_option maxHeartbeats 8000000 in
theorem implDesignOfSchedule_c (w : World) (n : Int) (hn64 : -9223372036854775808 ≤ n ∧ n ≤ 9223372036854775807) (A : Option Addr) (q c : Nat) (S : Spine3) (x : List (List (List Int))) (hr : RdL w A c S x) (hq : x.length = q) (hw : WfT x) (hz : (q : Int) + (wgt x : Nat) ≤ 1048576) :
    Calls Try.prog 9 #[.int .i64 n, .slice A q c] w (PostDMC w (dsP n x) (dsX n x) (dsM n x) (dsO n x)) := by
  have hzD := zeroD
  obtain ⟨wa, hwa⟩ : ∃ wa, wa = w.alloc (.cells #[.int .i64 0, .slice none 0 0] 26) := ⟨_, rfl⟩
  have hZa : RBox wa w.heap.size := by rw [hwa]; exact RBox.made w 26
  have hBa : Below w.heap.size w wa := by rw [hwa]; exact below_boxed w (.cells #[.int .i64 0, .slice none 0 0] 26)
  have hsa : w.heap.size + 1 ≤ wa.heap.size := by rw [hwa]; simp
  have HZa := Lib.hid hZa
  have HBa := Lib.hid hBa
  have hV := implValidSchedule_c wa n hn64 A q c S x (hr.below hBa) hq hw hz
  have HWa := Lib.hid hwa
  rcases hs : schB n x with _ | _
  · have h1 : dsO n x = 1 := if_neg (by rw [hs]; simp)
    rw [show dsP n x = 0 from if_neg (by omega), show dsX n x = [] from if_neg (by omega), show dsM n x = [] from if_neg (by omega), h1]
    rw [hs] at hV
    have HV := Lib.hid hV
    clear hV hs h1 hwa hZa hBa hr hq hw hz
    go_enter Try.func9, Try.ntmps9
    go_wp2_with fail
    rw [← HWa.out]
    refine (HV.out).mono ?_
    rintro e w2 ⟨rfl, hb2⟩
    have HZ2 := Lib.hid (HZa.out.step (lo := wa.heap.size) (by omega) hb2)
    have HB2 := Lib.hid (HBa.out.trans (hb2.mono HBa.out.size))
    have hs2 : w.heap.size + 1 ≤ w2.heap.size := by have := hb2.size; omega
    clear hb2
    have rz := HZ2.out
    have z0 := rz.c0
    have z1 := rz.c1
    have y0 := rz.f0
    have y1 := rz.f1
    clear rz
    go_wp2
    obtain ⟨r0, r1⟩ := HZ2.out.read (.int .i64 0) (.slice none 0 0)
    refine bodyPost_ret (v := .tuple #[.agg #[.int .i64 0, .slice none 0 0], .slice none 0 0, .int .i64 1]) (by simp [results, Try.results9, go_sem, r0, r1]) rfl ⟨⟨none, 0, 0, fun _ => (none, 0), none, 0, 0, fun _ => (none, 0), w.heap.size, rfl, rfl, rfl, Nat.le_refl _, by first | exact HB2.out.size | (simp [World.setCell]; omega), InM.nil_ _ _ _ _, InM.nil_ _ _ _ _⟩, by first | exact HB2.out | exact below_set2 HB2.out (by omega)⟩
  have hS : schOk n x := of_decide_eq_true hs
  have hrO := hS.2.1
  have hn2 := hS.1
  have hcnt := (cnt_allMet hS.1.1 hS.2.1).2 hS.2.2
  have hc496 : cntR x x.length ≤ 496 := by
    obtain ⟨N, rfl⟩ : ∃ N : Nat, n = (N : Int) := ⟨n.toNat, by omega⟩
    have h1 := Nat.mul_le_mul (show N ≤ 32 by omega) (show N - 1 ≤ 31 by omega)
    rw [show (N : Int) * ((N : Int) - 1) = ((N * (N - 1) : Nat) : Int) by rw [Int.natCast_mul]; congr 1; omega, Int.tdiv_eq_ediv_of_nonneg (by omega)] at hcnt
    omega
  have hll := dsL_len (x := x) (Nat.le_refl _)
  have hq20 : q ≤ 1048576 := by omega
  have HCo := Lib.hid (fun (W : World) (hb : Below w.heap.size w W) => ConcatL_c W A q c S x (hr.below hb) hq hq20 (by rw [← hq]; omega))
  have HSo := Lib.hid (fun (W : World) (A' : Option Addr) (m c' : Nat) (R' : Spine) (hr' : RdM W A' c' R' (dsL x q)) (hm : m = (dsL x q).length) => sorted_c W n A' m c' R' (dsL x q) hr' hm.symm (by rw [hm, ← hq]; omega) (fun k hk => by
    rw [ds_two hrO (by rw [← hq] at *; rw [row_eq (by rw [← hm]; exact hk)]; exact List.getElem_mem _)]; omega))
  rw [hs] at hV
  have HV := Lib.hid hV
  by_cases h128 : (dsL x x.length).length ≤ 128
  rotate_left
  · have h1 : dsO n x = 5 := (if_pos hs).trans (if_neg h128)
    rw [show dsP n x = 0 from if_neg (by omega), show dsX n x = [] from if_neg (by omega), show dsM n x = [] from if_neg (by omega), h1]
    rw [← hq] at HSo
    rw [show mkP n (dsL x x.length) = 0 from if_neg h128, show mkL (dsL x x.length) = [] from if_neg h128, show mkC (dsL x x.length) = 5 from if_neg h128, hq] at HSo
    clear hV hs h1 hwa hZa hBa hr hq hw hz hS hrO hcnt hll h128
    go_enter Try.func9, Try.ntmps9
    go_wp2_with fail
    rw [← HWa.out]
    refine (HV.out).mono ?_
    rintro e w2 ⟨rfl, hb2⟩
    have HZ2 := Lib.hid (HZa.out.step (lo := wa.heap.size) (by omega) hb2)
    have HB2 := Lib.hid (HBa.out.trans (hb2.mono HBa.out.size))
    have hs2 : w.heap.size + 1 ≤ w2.heap.size := by have := hb2.size; omega
    clear hb2
    go_wp2_with fail
    refine (HCo.out _ HB2.out).mono ?_
    rintro e w3 ⟨⟨A3, c3, R3, m3, rfl, hm3, hr3⟩, hb3⟩
    have HZ3 := Lib.hid (HZ2.out.step (lo := w2.heap.size) (by omega) hb3)
    have HB3 := Lib.hid (HB2.out.trans (hb3.mono HB2.out.size))
    have hs3 : w.heap.size + 1 ≤ w3.heap.size := by have := hb3.size; omega
    have HS3 := Lib.hid (HSo.out w3 A3 m3 c3 R3 hr3 hm3)
    clear hb3 hr3 hm3
    go_wp2_with fail
    refine (HS3.out).mono ?_
    rintro e w4 ⟨⟨A4, n4, c4, R4, rfl, hn4, ho4⟩, hb4⟩
    have HZ4 := Lib.hid (HZ3.out.step (lo := w3.heap.size) (by omega) hb4)
    have HB4 := Lib.hid (HB3.out.trans (hb4.mono HB3.out.size))
    have hs4 : w.heap.size + 1 ≤ w4.heap.size := by have := hb4.size; omega
    have HZ5 := Lib.hid (HZ4.out.step (lo := w4.heap.size) (by omega) (Below.alloc (Below.refl w4.heap.size w4) (Nat.le_refl _) (.cells #[.int .i64 0, .slice A4 n4 c4] 26)))
    have HB5 := Lib.hid (HB4.out.alloc HB4.out.size (.cells #[.int .i64 0, .slice A4 n4 c4] 26))
    have hs5 : w.heap.size + 1 ≤ (w4.alloc (.cells #[.int .i64 0, .slice A4 n4 c4] 26)).heap.size := by simp; omega
    clear hb4 ho4 hn4
    have rz := HZ5.out
    have z0 := rz.c0
    have z1 := rz.c1
    have y0 := rz.f0
    have y1 := rz.f1
    clear rz
    go_wp2
    obtain ⟨r0, r1⟩ := HZ5.out.read (.int .i64 0) (.slice none 0 0)
    refine bodyPost_ret (v := .tuple #[.agg #[.int .i64 0, .slice none 0 0], .slice none 0 0, .int .i64 5]) (by simp [results, Try.results9, go_sem, r0, r1]) rfl ⟨⟨none, 0, 0, fun _ => (none, 0), none, 0, 0, fun _ => (none, 0), w.heap.size, rfl, rfl, rfl, Nat.le_refl _, by first | exact HB5.out.size | (simp [World.setCell]; omega), InM.nil_ _ _ _ _, InM.nil_ _ _ _ _⟩, by first | exact HB5.out | exact below_set2 HB5.out (by omega)⟩
  have h1 : dsO n x = 0 := (if_pos hs).trans (if_pos h128)
  rw [show dsP n x = n from if_pos h1, show dsX n x = dsB x from if_pos h1, show dsM n x = dsT x x.length from if_pos h1, h1]
  rw [← hq] at HSo
  rw [show mkP n (dsL x x.length) = n from if_pos h128, show mkL (dsL x x.length) = dsB x from if_pos h128, show mkC (dsL x x.length) = 0 from if_pos h128, hq] at HSo
  have hbl : (dsB x).length ≤ 128 := by rw [(dsB_perm x).length_eq]; exact h128
  have HBs := Lib.hid (fun (r i : Nat) (hr : r < x.length) (hi : i < (pln x r).length) => show ∃ t, t < (dsB x).length ∧ row (dsB x) t = pr x r i ∧ dsI x (pr x r i) = (t : Int) from by
    obtain ⟨t, ht, e⟩ := dsB_find hr (pln_row.2 ⟨i, hi, rfl⟩)
    exact ⟨t, ht, e, by rw [← e]; exact dsI_eq hrO ht⟩)
  have HSt := Lib.hid (fun (a b : Nat) (hab : a < b) (hb : b < (dsB x).length) => dsB_strict hrO hab hb)
  have HR := Lib.hid hr
  have HQ := Lib.hid hq
  rw [hq]
  have HPl := Lib.hid (fun (r : Nat) (hr : r < x.length) => show (pln x r).length ≤ 496 from by
    have h9 : ∀ k, k ≤ x.length → r < k → (pln x r).length ≤ cntR x k := fun k => by
      induction k with
      | zero => intro _ h; omega
      | succ k ih =>
        intro hk h
        rw [cntR]
        by_cases e : r = k
        · subst e; omega
        · have := ih (by omega) (by omega); omega
    exact Nat.le_trans (h9 x.length (Nat.le_refl _) hr) hc496)
  clear hV hs h1 hwa hZa hBa hr hq hw hz hS hrO hcnt hll h128
  go_enter Try.func9, Try.ntmps9
  go_wp2_with fail
  rw [← HWa.out]
  refine (HV.out).mono ?_
  rintro e w2 ⟨rfl, hb2⟩
  have HZ2 := Lib.hid (HZa.out.step (lo := wa.heap.size) (by omega) hb2)
  have HB2 := Lib.hid (HBa.out.trans (hb2.mono HBa.out.size))
  have hs2 : w.heap.size + 1 ≤ w2.heap.size := by have := hb2.size; omega
  clear hb2
  go_wp2_with fail
  refine (HCo.out _ HB2.out).mono ?_
  rintro e w3 ⟨⟨A3, c3, R3, m3, rfl, hm3, hr3⟩, hb3⟩
  have HZ3 := Lib.hid (HZ2.out.step (lo := w2.heap.size) (by omega) hb3)
  have HB3 := Lib.hid (HB2.out.trans (hb3.mono HB2.out.size))
  have hs3 : w.heap.size + 1 ≤ w3.heap.size := by have := hb3.size; omega
  have HS3 := Lib.hid (HSo.out w3 A3 m3 c3 R3 hr3 hm3)
  clear hb3 hr3 hm3
  go_wp2_with fail
  refine (HS3.out).mono ?_
  rintro e w4 ⟨⟨A4, n4, c4, R4, rfl, hn4, ho4⟩, hb4⟩
  have hs4 : w.heap.size + 1 ≤ w4.heap.size := by have := hb4.size; omega
  have HZ4 := Lib.hid (HZ3.out.step (lo := w3.heap.size) (by omega) hb4)
  have HB4 := Lib.hid (HB3.out.trans (hb4.mono HB3.out.size))
  have HO4 := Lib.hid (show InM w4 (w.heap.size + 1) w4.heap.size A4 c4 R4 (dsB x) from (ho4.lower (by omega)).in_)
  have HN4 := Lib.hid hn4
  have hn128 : n4 ≤ 128 := by rw [← hn4]; exact hbl
  obtain ⟨w5, hw5⟩ : ∃ w5, w5 = w4.alloc (.cells #[.int .i64 n, .slice A4 n4 c4] 26) := ⟨_, rfl⟩
  have hb45 : Below w4.heap.size w4 w5 := by rw [hw5]; exact (Below.refl _ _).alloc (Nat.le_refl _) _
  have hX5 : BoxD w5 w4.heap.size n A4 n4 c4 := by rw [hw5]; exact BoxD.made _ _ _ _ _ _
  have hs5 : w5.heap.size = w4.heap.size + 1 := by rw [hw5]; simp
  have HZ5 := Lib.hid (HZ4.out.step (lo := w4.heap.size) (by omega) hb45)
  have HB5 := Lib.hid (HB4.out.trans (hb45.mono HB4.out.size))
  have HO5 := Lib.hid (HO4.out.step (w' := w5) (fun k _ h2 => hb45.block k h2))
  have HX5 := Lib.hid hX5
  have HE0 := Lib.hid (OwnM.nil_ w5 w5.heap.size (fun _ => (none, 0)))
  have HEb0 := Lib.hid (Below.refl w5.heap.size w5)
  have HT0 := Lib.hid (show dsT x 0 = [] from rfl)
  clear hb4 ho4 hn4 hb45 hX5
  go_wp2
  rw [← hw5]
  clear hw5
  go_loopw [9, 35] (fun o v wr => ∃ (r : Nat) (A' : Option Addr) (c' : Nat) (R' : Spine), r ≤ q ∧ v = .int .i64 r ∧ o = .slice A' r c' ∧ Hid (OwnM wr w5.heap.size A' c' R' (dsT x r)) ∧ Hid (Below w5.heap.size w5 wr)) (fun _ v _ => q - (intOf v).toNat)
  case atStart => exact ⟨0, _, _, _, Nat.zero_le _, rfl, rfl, HE0, HEb0⟩
  case round =>
    obtain ⟨r, A', c', R', hr, rfl, rfl, HO, HB⟩ := hrel
    have hsz := HB.out.size
    by_cases hrq : r < q
    · have hrx : r < x.length := by rw [HQ.out]; exact hrq
      obtain ⟨b, off, e, hb, hcl⟩ := HR.out.at_ r hrx
      have HBw := Lib.hid (HB5.out.trans (HB.out.mono HB5.out.size))
      have hccr := (HBw.out.cell (p := ⟨b, off + r, none⟩) hb).trans hcl
      have hRr := HR.out.rows r hrx
      have hr0 : (0 : Int) ≤ (r : Int) := by omega
      have hr1 : (r : Int) < (q : Int) := by omega
      obtain ⟨m, hm⟩ : ∃ m, m = (pln x r).length := ⟨_, rfl⟩
      rw [← hm] at hccr
      have HM := Lib.hid hm
      have HRr := Lib.hid hRr
      have hm496 : m ≤ 496 := by rw [hm]; exact HPl.out r hrx
      subst e
      clear hcl hRr hm
      generalize (S r).1 = Ar at *
      generalize (S r).2.1 = cr at *
      generalize (S r).2.2 = Rr at *
      have HE := Lib.hid (OwnI.nil_ wr wr.heap.size)
      have HEb := Lib.hid (Below.refl wr.heap.size wr)
      obtain ⟨wo, rfl⟩ : ∃ wo, wo = wr := ⟨_, rfl⟩
      go_wp2
      clear hccr
      go_loopw [12, 41] (fun o v wr => ∃ (i : Nat) (A6 : Option Addr) (c6 : Nat), i ≤ m ∧ v = .int .i64 i ∧ o = .slice A6 i c6 ∧ Hid (OwnI wr wo.heap.size A6 c6 (dsCt x r i)) ∧ Hid (Below wo.heap.size wo wr)) (fun _ v _ => m - (intOf v).toNat)
      case atStart => exact ⟨0, _, _, Nat.zero_le _, rfl, rfl, HE, HEb⟩
      case round =>
        obtain ⟨i, A6, c6, hi, rfl, rfl, HO6, HB6⟩ := hrel
        have hsz6 := HB6.out.size
        by_cases him : i < m
        · have hil : i < (pln x r).length := by rw [← HM.out]; exact him
          obtain ⟨b2, off2, e2, hb2, hcl2⟩ := HRr.out.at_ i hil
          have HBv := Lib.hid (HBw.out.trans (HB6.out.mono HBw.out.size))
          have hcr2 := (HBv.out.cell (p := ⟨b2, off2 + i, none⟩) hb2).trans hcl2
          have hRi := (HRr.out.rows i hil).below HBv.out
          obtain ⟨t, ht, et, ei⟩ := HBs.out r i hrx hil
          have hB5r : Below w5.heap.size w5 wr := HB.out.trans (HB6.out.mono hsz)
          have hbs := bsearch_c wr A4 (Rr i).1 n4 c4 (row (pln x r) i).length (Rr i).2 R4 (dsB x) (row (pln x r) i) (HO5.out.step (w' := wr) (fun k _ h2 => hB5r.block k (by omega))).own.rd HN4.out (by omega) hRi rfl t (by rw [← HN4.out]; exact ht)
            (fun k hk => by have := HSt.out k t hk ht; rw [et] at this; exact this)
            (fun k hk hkn => by
              rcases Nat.lt_or_ge t k with e | e
              · have h9 := HSt.out t k e (by rw [HN4.out]; exact hkn)
                rw [et, cmpL_neg] at h9
                have h8 : 0 < cmpL (row (dsB x) k) (pr x r i) := by omega
                exact Int.le_of_lt h8
              · obtain rfl : k = t := by omega
                rw [et]; exact Int.le_of_eq (cmpL_self _).symm)
            (by rw [et]; exact cmpL_self _)
          have HBs1 := Lib.hid hbs
          have hx5 := HX5.out.step (lo := w5.heap.size) (by omega) hB5r
          have hc1 := hx5.c1
          have hi0 : (0 : Int) ≤ (i : Int) := by omega
          have hi1 : (i : Int) < (m : Int) := by omega
          have HSu := Lib.hid (show dsCt x r (i + 1) = dsCt x r i ++ [(t : Int)] from by rw [dsCt_succ hil, ei])
          have HLi := Lib.hid (dsCt_len (x := x) (r := r) (Nat.le_of_lt hil))
          have HOa := Lib.hid (HO6.out.alloc (.cells #[.int .i64 (t : Int)] 2))
          have ht128 : t ≤ 128 := by omega
          subst e2
          clear hcl2 hRi ht et ei hB5r hbs hx5
          go_wp2_with fail
          refine (HBs1.out).mono ?_
          rintro e w' ⟨rfl, rfl⟩
          go_wp2_with (at_builtin; refine wpI_append rfl _ _ rfl wo.heap.size _ _ _ (dsCt x r i) (t : Int) wr.heap.size rfl rfl HLi.out HOa.out (World.cell?_alloc_at _ _ _ _ rfl) (by omega) (by simp; omega) ?_; intro A7 c7 w7 ho7 hg7 ha7)
          have HB7 := Lib.hid (show Below wo.heap.size wo w7 from (HB6.out.alloc hsz6 (.cells #[.int .i64 (t : Int)] 2)).trans (below_blk HOa.out hg7 (Nat.le_refl _) (by simp; omega)))
          have HO7 := Lib.hid (show OwnI w7 wo.heap.size A7 c7 (dsCt x r (i + 1)) from by rw [HSu.out]; exact ho7)
          clear ho7 hg7 ha7 hcr2 hc1
          go_wp2
          go_roundw
          case rel => exact ⟨i + 1, _, _, by omega, by go_num, rfl, HO7, HB7⟩
          case measure => simp [intOf]; omega
        · obtain rfl : m = i := by omega
          have HAll := Lib.hid (show dsCt x r m = dsC x r from by rw [HM.out, dsCt_all])
          have HLc := Lib.hid (show (dsC x r).length = m from by unfold dsC; rw [List.length_map, HM.out])
          have HBx := Lib.hid (HB.out.trans (HB6.out.mono hsz))
          have HOf := Lib.hid (show OwnI wr wo.heap.size A6 c6 (dsC x r) from by rw [← HAll.out]; exact HO6.out)
          have HOx := Lib.hid ((HO.out.below HB6.out).alloc (.cells #[.slice A6 m c6] 45))
          have HIx := Lib.hid ((HOf.out.lower (lo' := w5.heap.size) hsz).alloc (.cells #[.slice A6 m c6] 45))
          have HAp := Lib.hid (later_apart HO.out HOf.out)
          have HLt := Lib.hid (dsT_len x r)
          go_wp2_with (at_builtin; refine wpM_append rfl _ _ rfl w5.heap.size _ _ _ R' (dsT x r) A6 m c6 (dsC x r) wr.heap.size rfl rfl HLt.out HLc.out HOx.out HIx.out HAp.out (World.cell?_alloc_at _ _ _ _ rfl) (by omega) (by simp; omega) ?_; intro A9 c9 R9 w9 ho9 hg9 ha9)
          have HB9 := Lib.hid ((HBx.out.alloc HBx.out.size (.cells #[.slice A6 m c6] 45)).trans (below_blkM HOx.out hg9 (Nat.le_refl _) (by simp; omega)))
          have HO9 := Lib.hid (show OwnM w9 w5.heap.size A9 c9 R9 (dsT x (r + 1)) from by rw [dsT_succ]; exact ho9)
          clear ho9 hg9 ha9
          go_wp2
          go_roundw
          case rel => exact ⟨r + 1, _, _, _, by omega, by go_num, rfl, HO9, HB9⟩
          case measure => simp [intOf]; omega
    · obtain rfl : q = r := by omega
      have HLt := Lib.hid (dsT_len x q)
      have hx5 := HX5.out.step (lo := w5.heap.size) (by omega) HB.out
      have hc0 := hx5.c0
      have hc1 := hx5.c1
      have HZr := Lib.hid (HZ5.out.step (lo := w5.heap.size) (by omega) HB.out)
      have HBr := Lib.hid (HB5.out.trans (HB.out.mono HB5.out.size))
      have HDr := Lib.hid ((HO5.out.step (w' := wr) (fun k _ h2 => HB.out.block k (by omega))).higher (hi' := w5.heap.size) (by omega))
      have HCr := Lib.hid HO.out.in_
      clear hx5
      have rz := HZr.out
      have z0 := rz.c0
      have z1 := rz.c1
      have y0 := rz.f0
      have y1 := rz.f1
      clear rz
      go_wp2
      obtain ⟨r0, r1⟩ := HZr.out.read (.int .i64 n) (.slice A4 n4 c4)
      have hle : w5.heap.size ≤ wr.heap.size := HB.out.size
      refine bodyPost_ret (v := .tuple #[.agg #[.int .i64 n, .slice A4 n4 c4], .slice A' q c', .int .i64 0]) (by simp [results, Try.results9, go_sem, r0, r1]) rfl ⟨⟨A4, n4, c4, R4, A', q, c', R', w5.heap.size, rfl, HN4.out, HLt.out, by omega, by simpa [World.setCell] using hle, (in_set2 HDr.out (by omega) _ _).lower (by omega), (in_set2 HCr.out (by omega) _ _).higher (by simp [World.setCell])⟩, below_set2 HBr.out (by omega)⟩
end Go.Proofs.Ytamklliaibfljaa
