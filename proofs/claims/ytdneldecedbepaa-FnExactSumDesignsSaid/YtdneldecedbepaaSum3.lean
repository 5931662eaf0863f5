/-
  SumDesigns of the program. Conditions: those of each theorem.
-/
import Derived.Test.YtdneldecedbepaaSum2
namespace Go.Proofs.Ytdneldecedbepaa
open Go.RowKit
set_option linter.unusedVariables false
set_option linter.unusedSimpArgs false

set_option maxRecDepth 100000 in
set_option maxHeartbeats 8000000 in
theorem implSumDesigns_c (w : World) (p : Int) (hp : -9223372036854775808 ≤ p ∧ p ≤ 9223372036854775807) (A : Option Addr) (n c : Nat) (R : Spine) (xss : List (List Int)) (hr : RdM w A c R xss) (hn : xss.length = n) (hw : WfM xss) (hz : (n : Int) + (tot xss : Nat) ≤ 1048576)
    (q : Int) (hq : -9223372036854775808 ≤ q ∧ q ≤ 9223372036854775807) (B : Option Addr) (m d : Nat) (S : Spine) (yss : List (List Int)) (hy : RdM w B d S yss) (hm : yss.length = m) (hwy : WfM yss) (hzy : (m : Int) + (tot yss : Nat) ≤ 1048576) :
    Calls Try.prog 26 #[.agg #[.int .i64 p, .slice A n c], .agg #[.int .i64 q, .slice B m d]] w (PostDC w (sdP p xss q yss) (sdX p xss q yss) (sdC p xss q yss)) := by
  clear hw hz hwy hzy hp hq
  have hzD := zeroD
  obtain ⟨wa, hwa⟩ : ∃ wa, wa = ((w.alloc (.cells #[.int .i64 p, .slice A n c] 26)).alloc (.cells #[.int .i64 q, .slice B m d] 26)).alloc (.cells #[.int .i64 0, .slice none 0 0] 26) := ⟨_, rfl⟩
  have hXa : BoxD wa w.heap.size p A n c := by rw [hwa]; exact ((BoxD.made _ _ _ _ _ _).below (below_boxed _ _)).below (below_boxed _ _)
  have hYa : BoxD wa (w.heap.size + 1) q B m d := by
    rw [hwa]
    have := (BoxD.made (w.alloc (.cells #[.int .i64 p, .slice A n c] 26)) q B m d 26).below (below_boxed _ (.cells #[.int .i64 0, .slice none 0 0] 26))
    simpa using this
  have hZa : RBox wa (w.heap.size + 2) := by
    rw [hwa]
    have := RBox.made ((w.alloc (.cells #[.int .i64 p, .slice A n c] 26)).alloc (.cells #[.int .i64 q, .slice B m d] 26)) 26
    simpa using this
  have hBa : Below w.heap.size w wa := by rw [hwa]; exact ((below_boxed _ _).alloc (by simp) _).alloc (by simp; omega) _
  have hsa : w.heap.size + 3 ≤ wa.heap.size := by rw [hwa]; simp
  have HXa := Lib.hid hXa
  have HYa := Lib.hid hYa
  have HZa := Lib.hid hZa
  have HBa := Lib.hid hBa
  have hO := ValidDesign_c wa p A n c R xss (hr.below hBa) hn
  rw [hwa] at hO
  have HPe := Lib.hid (fun (W : World) (hb : Below w.heap.size w W) => ValidDesign_c W q B m d S yss (hy.below hb) hm)
  rcases hd : dsgB p xss with _ | _
  · have h1 : ¬ (dsgB p xss = true ∧ dsgB q yss = true) := by rw [hd]; simp
    rw [show sdP p xss q yss = 0 from if_neg h1, show sdX p xss q yss = [] from if_neg h1, show sdC p xss q yss = 1 from if_neg h1]
    rw [hd] at hO
    have HO := Lib.hid hO
    have HWa := Lib.hid hwa
    clear hO hwa hXa hYa hZa hBa hr hn hd hy hm h1
    go_enter Try.func26, Try.ntmps26
    go_wp2_with fail
    refine (HO.out).mono ?_
    rintro e w2 ⟨rfl, hb2⟩
    rw [← HWa.out] at hb2
    have HX2 := Lib.hid (HXa.out.below hb2)
    have HY2 := Lib.hid (HYa.out.below hb2)
    have HZ2 := Lib.hid (HZa.out.step (lo := wa.heap.size) (by omega) hb2)
    have HB2 := Lib.hid (HBa.out.trans (hb2.mono HBa.out.size))
    have hs2 : w.heap.size + 3 ≤ w2.heap.size := by have := hb2.size; omega
    clear hb2
    have rz := HZ2.out
    have z0 := rz.c0
    have z1 := rz.c1
    have y0 := rz.f0
    have y1 := rz.f1
    clear rz
    go_wp2
    obtain ⟨r0, r1⟩ := HZ2.out.read (.int .i64 0) (.slice none 0 0)
    refine bodyPost_ret (v := .tuple #[.agg #[.int .i64 0, .slice none 0 0], .int .i64 1]) (by simp [results, Try.results26, go_sem, r0, r1]) rfl ⟨⟨none, 0, 0, fun _ => (none, 0), rfl, rfl, OwnM.nil_ _ _ _⟩, below_set2 HB2.out (by omega)⟩
  rw [hd] at hO
  have HO := Lib.hid hO
  have HWa := Lib.hid hwa
  rcases hpe : dsgB q yss with _ | _
  · have h1 : ¬ (dsgB p xss = true ∧ dsgB q yss = true) := by rw [hpe]; simp
    rw [show sdP p xss q yss = 0 from if_neg h1, show sdX p xss q yss = [] from if_neg h1, show sdC p xss q yss = 1 from if_neg h1]
    rw [hpe] at HPe
    clear hO hwa hXa hYa hZa hBa hr hn hd hy hm h1 hpe
    go_enter Try.func26, Try.ntmps26
    go_wp2_with fail
    refine (HO.out).mono ?_
    rintro e w2 ⟨rfl, hb2⟩
    rw [← HWa.out] at hb2
    have HX2 := Lib.hid (HXa.out.below hb2)
    have HY2 := Lib.hid (HYa.out.below hb2)
    have HZ2 := Lib.hid (HZa.out.step (lo := wa.heap.size) (by omega) hb2)
    have HB2 := Lib.hid (HBa.out.trans (hb2.mono HBa.out.size))
    have hs2 : w.heap.size + 3 ≤ w2.heap.size := by have := hb2.size; omega
    clear hb2
    have hd0 := HY2.out.c0
    have hd1 := HY2.out.c1
    have HPw := Lib.hid (HPe.out w2 HB2.out)
    go_wp2_with fail
    refine (HPw.out).mono ?_
    rintro e w4 ⟨rfl, hb4⟩
    have HX4 := Lib.hid (HX2.out.below hb4)
    have HY4 := Lib.hid (HY2.out.below hb4)
    have HZ4 := Lib.hid (HZ2.out.step (lo := w2.heap.size) (by omega) hb4)
    have HB4 := Lib.hid (HB2.out.trans (hb4.mono HB2.out.size))
    have hs4 : w.heap.size + 3 ≤ w4.heap.size := by have := hb4.size; omega
    clear hb4 hd0 hd1
    have hc0 := HX4.out.c0
    have hc1 := HX4.out.c1
    have hd0 := HY4.out.c0
    have hd1 := HY4.out.c1
    clear hc0 hc1 hd0 hd1
    have rz := HZ4.out
    have z0 := rz.c0
    have z1 := rz.c1
    have y0 := rz.f0
    have y1 := rz.f1
    clear rz
    go_wp2
    obtain ⟨r0, r1⟩ := HZ4.out.read (.int .i64 0) (.slice none 0 0)
    refine bodyPost_ret (v := .tuple #[.agg #[.int .i64 0, .slice none 0 0], .int .i64 1]) (by simp [results, Try.results26, go_sem, r0, r1]) rfl ⟨⟨none, 0, 0, fun _ => (none, 0), rfl, rfl, OwnM.nil_ _ _ _⟩, below_set2 HB4.out (by omega)⟩
  rw [hpe] at HPe
  by_cases hpq : p = q
  rotate_left
  · have h0 : dsgB p xss = true ∧ dsgB q yss = true := ⟨hd, hpe⟩
    rw [show sdP p xss q yss = 0 from (if_pos h0).trans (if_neg hpq), show sdX p xss q yss = [] from (if_pos h0).trans (if_neg hpq), show sdC p xss q yss = 6 from (if_pos h0).trans (if_neg hpq)]
    have hpd : (p == q) = false := by simp [hpq]
    clear hO hwa hXa hYa hZa hBa hr hn hd hy hm h0 hpe hpq
    go_enter Try.func26, Try.ntmps26
    go_wp2_with fail
    refine (HO.out).mono ?_
    rintro e w2 ⟨rfl, hb2⟩
    rw [← HWa.out] at hb2
    have HX2 := Lib.hid (HXa.out.below hb2)
    have HY2 := Lib.hid (HYa.out.below hb2)
    have HZ2 := Lib.hid (HZa.out.step (lo := wa.heap.size) (by omega) hb2)
    have HB2 := Lib.hid (HBa.out.trans (hb2.mono HBa.out.size))
    have hs2 : w.heap.size + 3 ≤ w2.heap.size := by have := hb2.size; omega
    clear hb2
    have hd0 := HY2.out.c0
    have hd1 := HY2.out.c1
    have HPw := Lib.hid (HPe.out w2 HB2.out)
    go_wp2_with fail
    refine (HPw.out).mono ?_
    rintro e w4 ⟨rfl, hb4⟩
    have HX4 := Lib.hid (HX2.out.below hb4)
    have HY4 := Lib.hid (HY2.out.below hb4)
    have HZ4 := Lib.hid (HZ2.out.step (lo := w2.heap.size) (by omega) hb4)
    have HB4 := Lib.hid (HB2.out.trans (hb4.mono HB2.out.size))
    have hs4 : w.heap.size + 3 ≤ w4.heap.size := by have := hb4.size; omega
    clear hb4 hd0 hd1
    have hc0 := HX4.out.c0
    have hc1 := HX4.out.c1
    have hd0 := HY4.out.c0
    have hd1 := HY4.out.c1
    have rz := HZ4.out
    have z0 := rz.c0
    have z1 := rz.c1
    have y0 := rz.f0
    have y1 := rz.f1
    clear rz
    go_wp2
    obtain ⟨r0, r1⟩ := HZ4.out.read (.int .i64 0) (.slice none 0 0)
    refine bodyPost_ret (v := .tuple #[.agg #[.int .i64 0, .slice none 0 0], .int .i64 6]) (by simp [results, Try.results26, go_sem, r0, r1]) rfl ⟨⟨none, 0, 0, fun _ => (none, 0), rfl, rfl, OwnM.nil_ _ _ _⟩, below_set2 HB4.out (by omega)⟩
  subst hpq
  have h0 : dsgB p xss = true ∧ dsgB p yss = true := ⟨hd, hpe⟩
  have hD := dsgB_true.1 hd
  have hE := dsgB_true.1 hpe
  have hn128 : n ≤ 128 := by have := hD.2.1; omega
  have hm128 : m ≤ 128 := by have := hE.2.1; omega
  have hpp : 0 ≤ p ∧ p ≤ 32 := by have := hD.1.1; have := hD.1.2; omega
  rw [show sdP p xss p yss = mkP p (xss ++ yss) from (if_pos h0).trans (if_pos rfl), show sdX p xss p yss = mkL (xss ++ yss) from (if_pos h0).trans (if_pos rfl), show sdC p xss p yss = mkC (xss ++ yss) from (if_pos h0).trans (if_pos rfl)]
  have HLen := Lib.hid (fun k (hk : k < n + m) => (show (row (xss ++ yss) k).length ≤ 1048576 from by have := setB_len (P := 32) (setB_more (blockB_set (sd_block hD.2.2 hE.2.2 (show k < (xss ++ yss).length by rw [List.length_append]; omega))) hpp.2 (by omega)); omega))
  have HBlk := Lib.hid (fun k (hk : k < n + m) => (show blockB (row (xss ++ yss) k) p = true from sd_block hD.2.2 hE.2.2 (by rw [List.length_append]; omega)))
  have HNN := Lib.hid (show (xss ++ yss).length = n + m by rw [List.length_append, hn, hm])
  have HR := Lib.hid hr
  have HRy := Lib.hid hy
  have HN := Lib.hid hn
  have HM := Lib.hid hm
  have HMk := Lib.hid (fun (W : World) (A7 : Option Addr) (c7 : Nat) (h7 : RdM W A7 c7 (joinS R S n) (xss ++ yss)) => sorted_c W p A7 (n + m) c7 (joinS R S n) (xss ++ yss) h7 HNN.out (by omega) (fun k hk => HLen.out k hk))
  generalize mkP p (xss ++ yss) = rP at *
  generalize mkL (xss ++ yss) = rX at *
  generalize mkC (xss ++ yss) = rC at *
  clear hO hwa hXa hYa hZa hBa hr hn hd hy hm h0 hpe hD hE
  go_enter Try.func26, Try.ntmps26
  go_wp2_with fail
  refine (HO.out).mono ?_
  rintro e w2 ⟨rfl, hb2⟩
  rw [← HWa.out] at hb2
  have HX2 := Lib.hid (HXa.out.below hb2)
  have HY2 := Lib.hid (HYa.out.below hb2)
  have HZ2 := Lib.hid (HZa.out.step (lo := wa.heap.size) (by omega) hb2)
  have HB2 := Lib.hid (HBa.out.trans (hb2.mono HBa.out.size))
  have hs2 : w.heap.size + 3 ≤ w2.heap.size := by have := hb2.size; omega
  clear hb2
  have hd0 := HY2.out.c0
  have hd1 := HY2.out.c1
  have HPw := Lib.hid (HPe.out w2 HB2.out)
  go_wp2_with fail
  refine (HPw.out).mono ?_
  rintro e w4 ⟨rfl, hb4⟩
  have HX4 := Lib.hid (HX2.out.below hb4)
  have HY4 := Lib.hid (HY2.out.below hb4)
  have HZ4 := Lib.hid (HZ2.out.step (lo := w2.heap.size) (by omega) hb4)
  have HB4 := Lib.hid (HB2.out.trans (hb4.mono HB2.out.size))
  have hs4 : w.heap.size + 3 ≤ w4.heap.size := by have := hb4.size; omega
  clear hb4 hd0 hd1
  have hc0 := HX4.out.c0
  have hc1 := HX4.out.c1
  have hd0 := HY4.out.c0
  have hd1 := HY4.out.c1
  obtain ⟨W5, hW5⟩ : ∃ W5, W5 = w4.drew.alloc (.cells #[.slice A n c, .slice B m d] 22) := ⟨_, rfl⟩
  have HBd := Lib.hid (show Below w.heap.size w w4.drew from HB4.out.drew)
  have HZd := Lib.hid (show RBox w4.drew (w.heap.size + 2) from HZ4.out.drewN 1)
  have hb45 : Below w4.heap.size w4.drew W5 := by rw [hW5]; exact (Below.refl _ w4.drew).alloc (Nat.le_refl _) _
  have hBw5 : Below w.heap.size w W5 := HBd.out.trans (hb45.mono HB4.out.size)
  have hCc := Concat_c W5 w4.heap.size A B n m c d R S xss yss (by rw [hW5]; exact World.cell?_alloc_at _ _ _ _ rfl) (by rw [hW5]; exact World.cell?_alloc_at _ _ _ _ rfl) (HR.out.below hBw5) HN.out (HRy.out.below hBw5) HM.out ⟨by omega, by omega⟩
  have hs5 : w4.heap.size ≤ W5.heap.size := by rw [hW5]; simp
  have hq1 : w.heap.size < w4.heap.size := by omega
  have hq2 : w.heap.size + 1 < w4.heap.size := by omega
  have hq3 : w.heap.size < w.heap.size + 2 := by omega
  have hq4 : w.heap.size + 1 < w.heap.size + 2 := by omega
  have hzz : w.heap.size + 2 < w4.heap.size := by omega
  have hS5 := keep2 (q1 := ⟨w.heap.size, 0, none⟩) (q2 := ⟨w.heap.size, 1, none⟩) (q3 := ⟨w.heap.size + 1, 1, none⟩) hb45 hq1 hq1 hq2 ⟨hc0, hc1, hd1⟩
  have HB45 := Lib.hid hb45
  rw [hW5] at hCc hS5 hs5 HB45
  have HCc := Lib.hid hCc
  clear hCc hb45 hBw5 hW5
  go_wp2
  go_region_held3 (fun w' => w'.cell? ⟨w.heap.size, 0, none⟩ = some (.int .i64 p) ∧ w'.cell? ⟨w.heap.size, 1, none⟩ = some (.slice A n c) ∧ w'.cell? ⟨w.heap.size + 1, 1, none⟩ = some (.slice B m d)) (first | exact ⟨hc0, hc1, hd1⟩ | exact hS5 | exact hS7 | exact hS9 | exact hSs _ _)
    (first | (go_at_call 63; refine (HCc.out).mono ?_; rintro e w7 ⟨⟨A7, c7, rfl, hr7⟩, hb57⟩; have hb7 := HB45.out.trans (hb57.mono hs5); have hS7 := keep2 hb7 hq1 hq1 hq2 ⟨hc0, hc1, hd1⟩) | (go_at_call 51; refine (HMk.out w7 A7 c7 hr7).mono ?_; rintro e w9 ⟨⟨A9, n9, c9, R9, rfl, hn9, ho9⟩, hb9⟩; have hs7 : w4.heap.size ≤ w7.heap.size := hb7.size; have hb79 := hb7.trans (hb9.mono hs7); have hS9 := keep2 hb79 hq1 hq1 hq2 ⟨hc0, hc1, hd1⟩; have hSs := fun u0 u1 => keep2 (below_set2 (u0 := u0) (u1 := u1) (Below.refl (w.heap.size + 2) w9) (Nat.le_refl (w.heap.size + 2))) hq3 hq3 hq4 hS9; have HZ9 := Lib.hid (HZd.out.step hzz hb79); have HB9 := Lib.hid (HBd.out.trans (hb79.mono HB4.out.size)); have z0 := HZ9.out.c0; have z1 := HZ9.out.c1; have y0 := HZ9.out.f0; have y1 := HZ9.out.f1))
  have HO10 := Lib.hid (show OwnM w9 (w.heap.size + 2 + 1) A9 c9 R9 rX from ho9.lower (by omega))
  have HN9 := Lib.hid hn9
  clear ho9 hn9
  go_wp2
  obtain ⟨r0, r1⟩ := HZ9.out.read (.int .i64 rP) (.slice A9 n9 c9)
  refine bodyPost_ret (v := .tuple #[.agg #[.int .i64 rP, .slice A9 n9 c9], .int .i64 rC]) (by simp [results, Try.results26, go_sem, r0, r1]) rfl ⟨⟨A9, n9, c9, R9, rfl, HN9.out, own_set2 HO10.out (by omega) _ _⟩, below_set2 HB9.out (by omega)⟩
end Go.Proofs.Ytdneldecedbepaa
