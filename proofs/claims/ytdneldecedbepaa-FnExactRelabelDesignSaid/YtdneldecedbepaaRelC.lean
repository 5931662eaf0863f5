/-
  RelabelDesign of both sides. Conditions: those of each theorem.
-/
import Derived.Test.YtdneldecedbepaaRelB
namespace Go.Proofs.Ytdneldecedbepaa
open Go.RowKit
set_option linter.unusedVariables false
set_option linter.unusedSimpArgs false

set_option maxRecDepth 100000 in
set_option maxHeartbeats 8000000 in
theorem specRelabelDesign_c (w : World) (p : Int) (hp : -9223372036854775808 ≤ p ∧ p ≤ 9223372036854775807) (A : Option Addr) (n c : Nat) (R : Spine) (xss : List (List Int)) (hr : RdM w A c R xss) (hn : xss.length = n) (hw : WfM xss) (hz : (n : Int) + (tot xss : Nat) ≤ 1048576)
    (B : Option Addr) (m d : Nat) (q : List Int) (hy : RdI w B d q) (hm : q.length = m) (hwy : WfL q) (hzy : (m : Int) ≤ 1048576) :
    Calls Try.prog 40 #[.agg #[.int .i64 p, .slice A n c], .slice B m d] w (PostDC w (rbP p xss q) (rbX p xss q) (rbOk p xss q)) := by
  clear hw hz hwy
  have hzD := zeroD
  obtain ⟨wa, hwa⟩ : ∃ wa, wa = (w.alloc (.cells #[.int .i64 p, .slice A n c] 26)).alloc (.cells #[.int .i64 0, .slice none 0 0] 26) := ⟨_, rfl⟩
  have hXa : BoxD wa w.heap.size p A n c := by rw [hwa]; exact (BoxD.made _ _ _ _ _ _).below (below_boxed _ _)
  have hZa : RBox wa (w.heap.size + 1) := by
    rw [hwa]
    have := RBox.made (w.alloc (.cells #[.int .i64 p, .slice A n c] 26)) 26
    simpa using this
  have hBa : Below w.heap.size w wa := by rw [hwa]; exact (below_boxed _ _).alloc (by simp) _
  have hsa : w.heap.size + 2 ≤ wa.heap.size := by rw [hwa]; simp
  have HXa := Lib.hid hXa
  have HZa := Lib.hid hZa
  have HBa := Lib.hid hBa
  have hO := l10Ok_c wa w.heap.size A n c R xss p hXa (hr.below hBa) hn
  rw [hwa] at hO
  have HPe := Lib.hid (fun (W : World) (hb : Below w.heap.size w W) => l04Ok_c W B m d q (hy.below hb) hm)
  rcases hd : dsgB p xss with _ | _
  · have h1 : rbOk p xss q = 1 := if_neg (by rw [hd]; simp)
    rw [show rbP p xss q = 0 from if_neg (by omega), show rbX p xss q = [] from if_neg (by omega), h1]
    rw [hd] at hO
    have HO := Lib.hid hO
    have HWa := Lib.hid hwa
    clear hO hwa hXa hZa hBa hr hn hp hd hy hm h1
    go_enter Try.func40, Try.ntmps40
    go_wp2_with fail
    refine (HO.out).mono ?_
    rintro e w' ⟨rfl, k, rfl⟩
    rw [← HWa.out]
    have HZ2 := Lib.hid (HZa.out.drewN k)
    have HB2 := Lib.hid (below_drewN HBa.out k)
    generalize wa.drewN k = w2 at *
    have rz := HZ2.out
    have z0 := rz.c0
    have z1 := rz.c1
    have y0 := rz.f0
    have y1 := rz.f1
    clear rz
    go_wp2
    obtain ⟨r0, r1⟩ := HZ2.out.read (.int .i64 0) (.slice none 0 0)
    refine bodyPost_ret (v := .tuple #[.agg #[.int .i64 0, .slice none 0 0], .int .i64 1]) (by simp [results, Try.results40, go_sem, r0, r1]) rfl ⟨⟨none, 0, 0, fun _ => (none, 0), rfl, rfl, OwnM.nil_ _ _ _⟩, below_set2 HB2.out (by omega)⟩
  rw [hd] at hO
  have HO := Lib.hid hO
  have HWa := Lib.hid hwa
  rcases hpe : permB q with _ | _
  · have h1 : rbOk p xss q = 1 := if_neg (by rw [hpe]; simp)
    rw [show rbP p xss q = 0 from if_neg (by omega), show rbX p xss q = [] from if_neg (by omega), h1]
    rw [hpe] at HPe
    clear hO hwa hXa hZa hBa hr hn hp hd hy hm h1 hpe
    go_enter Try.func40, Try.ntmps40
    go_wp2_with fail
    refine (HO.out).mono ?_
    rintro e w' ⟨rfl, k, rfl⟩
    rw [← HWa.out]
    have HX2 := Lib.hid (HXa.out.drewN k)
    have HZ2 := Lib.hid (HZa.out.drewN k)
    have HB2 := Lib.hid (below_drewN HBa.out k)
    have hs2 : w.heap.size + 2 ≤ (wa.drewN k).heap.size := hsa
    generalize wa.drewN k = w2 at *
    have HPw := Lib.hid (HPe.out w2 HB2.out)
    go_wp2_with fail
    refine (HPw.out).mono ?_
    rintro e w' ⟨rfl, k2, rfl⟩
    have HX4 := Lib.hid (HX2.out.drewN k2)
    have HZ4 := Lib.hid (HZ2.out.drewN k2)
    have HB4 := Lib.hid (below_drewN HB2.out k2)
    have hs4 : w.heap.size + 2 ≤ (w2.drewN k2).heap.size := hs2
    generalize w2.drewN k2 = w4 at *
    have hc0 := HX4.out.c0
    have hc1 := HX4.out.c1
    have rz := HZ4.out
    have z0 := rz.c0
    have z1 := rz.c1
    have y0 := rz.f0
    have y1 := rz.f1
    clear rz
    go_wp2
    obtain ⟨r0, r1⟩ := HZ4.out.read (.int .i64 0) (.slice none 0 0)
    refine bodyPost_ret (v := .tuple #[.agg #[.int .i64 0, .slice none 0 0], .int .i64 1]) (by simp [results, Try.results40, go_sem, r0, r1]) rfl ⟨⟨none, 0, 0, fun _ => (none, 0), rfl, rfl, OwnM.nil_ _ _ _⟩, below_set2 HB4.out (by omega)⟩
  rw [hpe] at HPe
  by_cases hl : (m : Int) = p
  rotate_left
  · have h1 : rbOk p xss q = 6 := (if_pos ⟨hd, hpe⟩).trans (if_neg (by rw [hm]; exact hl))
    rw [show rbP p xss q = 0 from if_neg (by omega), show rbX p xss q = [] from if_neg (by omega), h1]
    have hld : ((m : Int) == p) = false := by simp [hl]
    clear hO hwa hXa hZa hBa hr hn hp hd hy hm h1 hpe hl
    go_enter Try.func40, Try.ntmps40
    go_wp2_with fail
    refine (HO.out).mono ?_
    rintro e w' ⟨rfl, k, rfl⟩
    rw [← HWa.out]
    have HX2 := Lib.hid (HXa.out.drewN k)
    have HZ2 := Lib.hid (HZa.out.drewN k)
    have HB2 := Lib.hid (below_drewN HBa.out k)
    have hs2 : w.heap.size + 2 ≤ (wa.drewN k).heap.size := hsa
    generalize wa.drewN k = w2 at *
    have HPw := Lib.hid (HPe.out w2 HB2.out)
    go_wp2_with fail
    refine (HPw.out).mono ?_
    rintro e w' ⟨rfl, k2, rfl⟩
    have HX4 := Lib.hid (HX2.out.drewN k2)
    have HZ4 := Lib.hid (HZ2.out.drewN k2)
    have HB4 := Lib.hid (below_drewN HB2.out k2)
    have hs4 : w.heap.size + 2 ≤ (w2.drewN k2).heap.size := hs2
    generalize w2.drewN k2 = w4 at *
    have hc0 := HX4.out.c0
    have hc1 := HX4.out.c1
    have rz := HZ4.out
    have z0 := rz.c0
    have z1 := rz.c1
    have y0 := rz.f0
    have y1 := rz.f1
    clear rz
    go_wp2
    obtain ⟨r0, r1⟩ := HZ4.out.read (.int .i64 0) (.slice none 0 0)
    refine bodyPost_ret (v := .tuple #[.agg #[.int .i64 0, .slice none 0 0], .int .i64 6]) (by simp [results, Try.results40, go_sem, r0, r1]) rfl ⟨⟨none, 0, 0, fun _ => (none, 0), rfl, rfl, OwnM.nil_ _ _ _⟩, below_set2 HB4.out (by omega)⟩
  subst hl
  have h0 : rbOk (m : Int) xss q = 0 := (if_pos ⟨hd, hpe⟩).trans (if_pos (by rw [hm]))
  have hD := dsgB_true.1 hd
  have hn128 : n ≤ 128 := by have := hD.2.1; omega
  have HIm := Lib.hid (fun (W : World) (hX : BoxD W w.heap.size (m : Int) A n c) (hb : Below w.heap.size w W) => l10Image_c W w.heap.size (m : Int) A B n c m d R xss q hX (hr.below hb) hn hn128 (hy.below hb) hm (by have := hD.1.2; omega) (fun k hk => blockB_set (hD.2.2 k hk).1) (fun k hk => by have := (hD.2.2 k hk).1; unfold blockB at this; rw [Bool.and_eq_true, decide_eq_true_eq] at this; exact this.1))
  rw [show rbP (m : Int) xss q = (m : Int) from if_pos h0, show rbX (m : Int) xss q = sortLL (rbR q xss) from if_pos h0, h0]
  generalize sortLL (rbR q xss) = lst0 at *
  clear hO hwa hXa hZa hBa hr hn hp hd hy hm h0 hpe hD
  go_enter Try.func40, Try.ntmps40
  go_wp2_with fail
  refine (HO.out).mono ?_
  rintro e w' ⟨rfl, k, rfl⟩
  rw [← HWa.out]
  have HX2 := Lib.hid (HXa.out.drewN k)
  have HZ2 := Lib.hid (HZa.out.drewN k)
  have HB2 := Lib.hid (below_drewN HBa.out k)
  have hs2 : w.heap.size + 2 ≤ (wa.drewN k).heap.size := hsa
  generalize wa.drewN k = w2 at *
  have HPw := Lib.hid (HPe.out w2 HB2.out)
  go_wp2_with fail
  refine (HPw.out).mono ?_
  rintro e w' ⟨rfl, k2, rfl⟩
  have HX4 := Lib.hid (HX2.out.drewN k2)
  have HZ4 := Lib.hid (HZ2.out.drewN k2)
  have HB4 := Lib.hid (below_drewN HB2.out k2)
  have hs4 : w.heap.size + 2 ≤ (w2.drewN k2).heap.size := hs2
  generalize w2.drewN k2 = w4 at *
  have hc0 := HX4.out.c0
  have hc1 := HX4.out.c1
  have HImw := Lib.hid (HIm.out w4 HX4.out HB4.out)
  go_wp2_with fail
  refine (HImw.out).mono ?_
  rintro e w9 ⟨⟨A9, n9, c9, R9, rfl, hn9, ho9⟩, hb9⟩
  have HZ9 := Lib.hid (HZ4.out.step (lo := w4.heap.size) (by omega) hb9)
  have HB9 := Lib.hid (HB4.out.trans (hb9.mono HB4.out.size))
  have HO9 := Lib.hid (show OwnM w9 (w.heap.size + 1 + 1) A9 c9 R9 (lst0) from ho9.lower (by omega))
  have HN9 := Lib.hid hn9
  clear hb9 ho9 hn9
  generalize lst0 = lst at *
  generalize (m : Int) = ptz at *
  have rz := HZ9.out
  have z0 := rz.c0
  have z1 := rz.c1
  have y0 := rz.f0
  have y1 := rz.f1
  clear rz
  go_wp2
  obtain ⟨r0, r1⟩ := HZ9.out.read (.int .i64 ptz) (.slice A9 n9 c9)
  refine bodyPost_ret (v := .tuple #[.agg #[.int .i64 ptz, .slice A9 n9 c9], .int .i64 0]) (by simp [results, Try.results40, go_sem, r0, r1]) rfl ⟨⟨A9, n9, c9, R9, rfl, HN9.out, own_set2 HO9.out (by omega) _ _⟩, below_set2 HB9.out (by omega)⟩

set_option maxRecDepth 100000 in
set_option maxHeartbeats 8000000 in
theorem implRelabelDesign_c (w : World) (p : Int) (hp : -9223372036854775808 ≤ p ∧ p ≤ 9223372036854775807) (A : Option Addr) (n c : Nat) (R : Spine) (xss : List (List Int)) (hr : RdM w A c R xss) (hn : xss.length = n) (hw : WfM xss) (hz : (n : Int) + (tot xss : Nat) ≤ 1048576)
    (B : Option Addr) (m d : Nat) (q : List Int) (hy : RdI w B d q) (hm : q.length = m) (hwy : WfL q) (hzy : (m : Int) ≤ 1048576) :
    Calls Try.prog 42 #[.agg #[.int .i64 p, .slice A n c], .slice B m d] w (PostDC w (rbP p xss q) (rbX p xss q) (rbOk p xss q)) := by
  clear hw hz hwy
  have hzD := zeroD
  obtain ⟨wa, hwa⟩ : ∃ wa, wa = (w.alloc (.cells #[.int .i64 p, .slice A n c] 26)).alloc (.cells #[.int .i64 0, .slice none 0 0] 26) := ⟨_, rfl⟩
  have hXa : BoxD wa w.heap.size p A n c := by rw [hwa]; exact (BoxD.made _ _ _ _ _ _).below (below_boxed _ _)
  have hZa : RBox wa (w.heap.size + 1) := by
    rw [hwa]
    have := RBox.made (w.alloc (.cells #[.int .i64 p, .slice A n c] 26)) 26
    simpa using this
  have hBa : Below w.heap.size w wa := by rw [hwa]; exact (below_boxed _ _).alloc (by simp) _
  have hsa : w.heap.size + 2 ≤ wa.heap.size := by rw [hwa]; simp
  have HXa := Lib.hid hXa
  have HZa := Lib.hid hZa
  have HBa := Lib.hid hBa
  have hO := ValidDesign_c wa p A n c R xss (hr.below hBa) hn
  rw [hwa] at hO
  have HPe := Lib.hid (fun (W : World) (hb : Below w.heap.size w W) => ValidPermutation_c W B m d q (hy.below hb) hm (by omega))
  rcases hd : dsgB p xss with _ | _
  · have h1 : rbOk p xss q = 1 := if_neg (by rw [hd]; simp)
    rw [show rbP p xss q = 0 from if_neg (by omega), show rbX p xss q = [] from if_neg (by omega), h1]
    rw [hd] at hO
    have HO := Lib.hid hO
    have HWa := Lib.hid hwa
    clear hO hwa hXa hZa hBa hr hn hp hd hy hm h1
    go_enter Try.func42, Try.ntmps42
    go_wp2_with fail
    refine (HO.out).mono ?_
    rintro e w2 ⟨rfl, hb2⟩
    rw [← HWa.out] at hb2
    have HZ2 := Lib.hid (HZa.out.step (lo := wa.heap.size) (by omega) hb2)
    have HB2 := Lib.hid (HBa.out.trans (hb2.mono HBa.out.size))
    clear hb2
    have rz := HZ2.out
    have z0 := rz.c0
    have z1 := rz.c1
    have y0 := rz.f0
    have y1 := rz.f1
    clear rz
    go_wp2
    obtain ⟨r0, r1⟩ := HZ2.out.read (.int .i64 0) (.slice none 0 0)
    refine bodyPost_ret (v := .tuple #[.agg #[.int .i64 0, .slice none 0 0], .int .i64 1]) (by simp [results, Try.results42, go_sem, r0, r1]) rfl ⟨⟨none, 0, 0, fun _ => (none, 0), rfl, rfl, OwnM.nil_ _ _ _⟩, below_set2 HB2.out (by omega)⟩
  rw [hd] at hO
  have HO := Lib.hid hO
  have HWa := Lib.hid hwa
  rcases hpe : permB q with _ | _
  · have h1 : rbOk p xss q = 1 := if_neg (by rw [hpe]; simp)
    rw [show rbP p xss q = 0 from if_neg (by omega), show rbX p xss q = [] from if_neg (by omega), h1]
    rw [hpe] at HPe
    clear hO hwa hXa hZa hBa hr hn hp hd hy hm h1 hpe
    go_enter Try.func42, Try.ntmps42
    go_wp2_with fail
    refine (HO.out).mono ?_
    rintro e w2 ⟨rfl, hb2⟩
    rw [← HWa.out] at hb2
    have HX2 := Lib.hid (HXa.out.below hb2)
    have HZ2 := Lib.hid (HZa.out.step (lo := wa.heap.size) (by omega) hb2)
    have HB2 := Lib.hid (HBa.out.trans (hb2.mono HBa.out.size))
    have hs2 : w.heap.size + 2 ≤ w2.heap.size := by have := hb2.size; omega
    have HPw := Lib.hid (HPe.out w2 HB2.out)
    clear hb2
    go_wp2_with fail
    refine (HPw.out).mono ?_
    rintro e w4 ⟨rfl, hb4⟩
    have HX4 := Lib.hid (HX2.out.below hb4)
    have HZ4 := Lib.hid (HZ2.out.step (lo := w2.heap.size) (by omega) hb4)
    have HB4 := Lib.hid (HB2.out.trans (hb4.mono HB2.out.size))
    have hs4 : w.heap.size + 2 ≤ w4.heap.size := by have := hb4.size; omega
    clear hb4
    have rz := HZ4.out
    have z0 := rz.c0
    have z1 := rz.c1
    have y0 := rz.f0
    have y1 := rz.f1
    clear rz
    go_wp2
    obtain ⟨r0, r1⟩ := HZ4.out.read (.int .i64 0) (.slice none 0 0)
    refine bodyPost_ret (v := .tuple #[.agg #[.int .i64 0, .slice none 0 0], .int .i64 1]) (by simp [results, Try.results42, go_sem, r0, r1]) rfl ⟨⟨none, 0, 0, fun _ => (none, 0), rfl, rfl, OwnM.nil_ _ _ _⟩, below_set2 HB4.out (by omega)⟩
  rw [hpe] at HPe
  by_cases hl : (m : Int) = p
  rotate_left
  · have h1 : rbOk p xss q = 6 := (if_pos ⟨hd, hpe⟩).trans (if_neg (by rw [hm]; exact hl))
    rw [show rbP p xss q = 0 from if_neg (by omega), show rbX p xss q = [] from if_neg (by omega), h1]
    have hld : ((m : Int) == p) = false := by simp [hl]
    clear hO hwa hXa hZa hBa hr hn hp hd hy hm h1 hpe hl
    go_enter Try.func42, Try.ntmps42
    go_wp2_with fail
    refine (HO.out).mono ?_
    rintro e w2 ⟨rfl, hb2⟩
    rw [← HWa.out] at hb2
    have HX2 := Lib.hid (HXa.out.below hb2)
    have HZ2 := Lib.hid (HZa.out.step (lo := wa.heap.size) (by omega) hb2)
    have HB2 := Lib.hid (HBa.out.trans (hb2.mono HBa.out.size))
    have hs2 : w.heap.size + 2 ≤ w2.heap.size := by have := hb2.size; omega
    have HPw := Lib.hid (HPe.out w2 HB2.out)
    clear hb2
    go_wp2_with fail
    refine (HPw.out).mono ?_
    rintro e w4 ⟨rfl, hb4⟩
    have HX4 := Lib.hid (HX2.out.below hb4)
    have HZ4 := Lib.hid (HZ2.out.step (lo := w2.heap.size) (by omega) hb4)
    have HB4 := Lib.hid (HB2.out.trans (hb4.mono HB2.out.size))
    have hs4 : w.heap.size + 2 ≤ w4.heap.size := by have := hb4.size; omega
    clear hb4
    have hc0 := HX4.out.c0
    have hc1 := HX4.out.c1
    go_wp2
    go_quiet ((go_at_call 48; exact quiet_n (sizeI_c _ _ _ _)))
    have HX6 := Lib.hid (HX4.out.drewN nq)
    have HZ6 := Lib.hid (HZ4.out.drewN nq)
    have HB6 := Lib.hid (below_drewN HB4.out nq)
    have hs6 : w.heap.size + 2 ≤ (w4.drewN nq).heap.size := hs4
    clear hc0 hc1
    generalize w4.drewN nq = w6 at *
    have rz := HZ6.out
    have z0 := rz.c0
    have z1 := rz.c1
    have y0 := rz.f0
    have y1 := rz.f1
    clear rz
    go_wp2
    obtain ⟨r0, r1⟩ := HZ6.out.read (.int .i64 0) (.slice none 0 0)
    refine bodyPost_ret (v := .tuple #[.agg #[.int .i64 0, .slice none 0 0], .int .i64 6]) (by simp [results, Try.results42, go_sem, r0, r1]) rfl ⟨⟨none, 0, 0, fun _ => (none, 0), rfl, rfl, OwnM.nil_ _ _ _⟩, below_set2 HB6.out (by omega)⟩
  subst hl
  have h0 : rbOk (m : Int) xss q = 0 := (if_pos ⟨hd, hpe⟩).trans (if_pos (by rw [hm]))
  have hD := dsgB_true.1 hd
  have hn128 : n ≤ 128 := by have := hD.2.1; omega
  have HIm := Lib.hid (fun (W : World) (hb : Below w.heap.size w W) => relabeled_c W (m : Int) A B n c m d R xss q (hr.below hb) hn hn128 (hy.below hb) hm (by have := hD.1.2; omega) (of_decide_eq_true hpe).2 (fun k hk => blockB_set (hD.2.2 k hk).1))
  rw [show rbP (m : Int) xss q = (m : Int) from if_pos h0, show rbX (m : Int) xss q = sortLL (rbR q xss) from if_pos h0, h0]
  generalize sortLL (rbR q xss) = lst0 at *
  clear hO hwa hXa hZa hBa hr hn hp hd hy hm h0 hpe hD
  go_enter Try.func42, Try.ntmps42
  go_wp2_with fail
  refine (HO.out).mono ?_
  rintro e w2 ⟨rfl, hb2⟩
  rw [← HWa.out] at hb2
  have HX2 := Lib.hid (HXa.out.below hb2)
  have HZ2 := Lib.hid (HZa.out.step (lo := wa.heap.size) (by omega) hb2)
  have HB2 := Lib.hid (HBa.out.trans (hb2.mono HBa.out.size))
  have hs2 : w.heap.size + 2 ≤ w2.heap.size := by have := hb2.size; omega
  have HPw := Lib.hid (HPe.out w2 HB2.out)
  clear hb2
  go_wp2_with fail
  refine (HPw.out).mono ?_
  rintro e w4 ⟨rfl, hb4⟩
  have HX4 := Lib.hid (HX2.out.below hb4)
  have HZ4 := Lib.hid (HZ2.out.step (lo := w2.heap.size) (by omega) hb4)
  have HB4 := Lib.hid (HB2.out.trans (hb4.mono HB2.out.size))
  have hs4 : w.heap.size + 2 ≤ w4.heap.size := by have := hb4.size; omega
  clear hb4
  have hc0 := HX4.out.c0
  have hc1 := HX4.out.c1
  go_wp2
  go_quiet ((go_at_call 48; exact quiet_n (sizeI_c _ _ _ _)))
  have HX6 := Lib.hid (HX4.out.drewN nq)
  have HZ6 := Lib.hid (HZ4.out.drewN nq)
  have HB6 := Lib.hid (below_drewN HB4.out nq)
  have hs6 : w.heap.size + 2 ≤ (w4.drewN nq).heap.size := hs4
  clear hc0 hc1
  generalize w4.drewN nq = w6 at *
  have HImw := Lib.hid (HIm.out w6 HB6.out)
  have hc0 := HX6.out.c0
  have hc1 := HX6.out.c1
  go_wp2_with fail
  refine (HImw.out).mono ?_
  rintro e w9 ⟨⟨A9, n9, c9, R9, rfl, hn9, ho9⟩, hb9⟩
  have HZ9 := Lib.hid (HZ6.out.step (lo := w6.heap.size) (by omega) hb9)
  have HB9 := Lib.hid (HB6.out.trans (hb9.mono HB6.out.size))
  have HO9 := Lib.hid (show OwnM w9 (w.heap.size + 1 + 1) A9 c9 R9 (lst0) from ho9.lower (by omega))
  have HN9 := Lib.hid hn9
  clear hb9 ho9 hn9
  generalize lst0 = lst at *
  generalize (m : Int) = ptz at *
  have rz := HZ9.out
  have z0 := rz.c0
  have z1 := rz.c1
  have y0 := rz.f0
  have y1 := rz.f1
  clear rz
  go_wp2
  obtain ⟨r0, r1⟩ := HZ9.out.read (.int .i64 ptz) (.slice A9 n9 c9)
  refine bodyPost_ret (v := .tuple #[.agg #[.int .i64 ptz, .slice A9 n9 c9], .int .i64 0]) (by simp [results, Try.results42, go_sem, r0, r1]) rfl ⟨⟨A9, n9, c9, R9, rfl, HN9.out, own_set2 HO9.out (by omega) _ _⟩, below_set2 HB9.out (by omega)⟩
end Go.Proofs.Ytdneldecedbepaa
