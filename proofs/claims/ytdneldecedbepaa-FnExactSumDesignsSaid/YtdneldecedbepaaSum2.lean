/-
  SumDesigns of both sides. Conditions: those of each theorem.
-/
import Derived.Test.YtdneldecedbepaaSum
namespace Go.Proofs.Ytdneldecedbepaa
open Go.RowKit
set_option linter.unusedVariables false
set_option linter.unusedSimpArgs false

theorem keep2 {lo : Nat} {w w' : World} {q1 q2 q3 : Addr} {v1 v2 v3 : Option Value} (hb : Below lo w w') (h1 : q1.block < lo) (h2 : q2.block < lo) (h3 : q3.block < lo) (h : w.cell? q1 = v1 ∧ w.cell? q2 = v2 ∧ w.cell? q3 = v3) :
    w'.cell? q1 = v1 ∧ w'.cell? q2 = v2 ∧ w'.cell? q3 = v3 := ⟨(hb.cell h1).trans h.1, (hb.cell h2).trans h.2.1, (hb.cell h3).trans h.2.2⟩
theorem sd_block {p : Int} {xss yss : List (List Int)} {f g : Nat → Prop} (h1 : ∀ k, k < xss.length → blockB (row xss k) p = true ∧ f k) (h2 : ∀ k, k < yss.length → blockB (row yss k) p = true ∧ g k) {k : Nat} (hk : k < (xss ++ yss).length) : blockB (row (xss ++ yss) k) p = true := by
  rw [List.length_append] at hk
  by_cases h : k < xss.length
  · rw [show row (xss ++ yss) k = row xss k by simp [row, List.getElem?_append_left h]]
    exact (h1 k h).1
  · rw [show row (xss ++ yss) k = row yss (k - xss.length) by simp [row, List.getElem?_append_right (Nat.le_of_not_lt h)]]
    exact (h2 _ (by omega)).1
theorem sd_join {w : World} {lo c n m cA cB : Nat} {A A1 B1 : Option Addr} {R S : Spine} {xss yss : List (List Int)} (hn : xss.length = n) (hm : yss.length = m) (h : w.ownsRow lo 37 1 (.slice A (n + m) c) (n + m) (valsM R xss ++ valsM S yss))
    (hx : RdM w A1 cA R xss) (hy : RdM w B1 cB S yss) : RdM w A c (joinS R S n) (xss ++ yss) := by
  subst hn hm
  exact RdM.joined h (fun k hk => hx.rows k hk) (fun k hk => hy.rows k hk)
def sdP (p : Int) (xss : List (List Int)) (q : Int) (yss : List (List Int)) : Int := if dsgB p xss = true ∧ dsgB q yss = true then (if p = q then mkP p (xss ++ yss) else 0) else 0
def sdX (p : Int) (xss : List (List Int)) (q : Int) (yss : List (List Int)) : List (List Int) := if dsgB p xss = true ∧ dsgB q yss = true then (if p = q then mkL (xss ++ yss) else []) else []
def sdC (p : Int) (xss : List (List Int)) (q : Int) (yss : List (List Int)) : Int := if dsgB p xss = true ∧ dsgB q yss = true then (if p = q then mkC (xss ++ yss) else 6) else 1
theorem SumDesigns_small (p : Int) (xss : List (List Int)) (q : Int) (yss : List (List Int)) : (sdX p xss q yss).length ≤ 1048576 ∧ tot (sdX p xss q yss) ≤ 1048576 := by
  unfold sdX
  split
  · next h =>
    split
    · next h2 =>
      subst h2
      have hD := dsgB_true.1 h.1
      have hE := dsgB_true.1 h.2
      refine mk_small fun r hr => ?_
      obtain ⟨k, hk, e⟩ := List.mem_iff_getElem.1 hr
      have h3 := sd_block hD.2.2 hE.2.2 hk
      rw [row_eq hk, e] at h3
      have := setB_len (P := 32) (setB_more (blockB_set h3) hD.1.2 (by omega))
      omega
    · simp [tot]
  · simp [tot]

set_option maxRecDepth 100000 in
set_option maxHeartbeats 8000000 in
theorem specSumDesigns_c (w : World) (p : Int) (hp : -9223372036854775808 ≤ p ∧ p ≤ 9223372036854775807) (A : Option Addr) (n c : Nat) (R : Spine) (xss : List (List Int)) (hr : RdM w A c R xss) (hn : xss.length = n) (hw : WfM xss) (hz : (n : Int) + (tot xss : Nat) ≤ 1048576)
    (q : Int) (hq : -9223372036854775808 ≤ q ∧ q ≤ 9223372036854775807) (B : Option Addr) (m d : Nat) (S : Spine) (yss : List (List Int)) (hy : RdM w B d S yss) (hm : yss.length = m) (hwy : WfM yss) (hzy : (m : Int) + (tot yss : Nat) ≤ 1048576) :
    Calls Try.prog 25 #[.agg #[.int .i64 p, .slice A n c], .agg #[.int .i64 q, .slice B m d]] w (PostDC w (sdP p xss q yss) (sdX p xss q yss) (sdC p xss q yss)) := by
  clear hw hz hwy hzy hp hq
  have hzD := zeroD
  obtain ⟨wa, hwa⟩ : ∃ wa, wa = ((w.alloc (.cells #[.int .i64 p, .slice A n c] 26)).alloc (.cells #[.int .i64 q, .slice B m d] 26)).alloc (.cells #[.int .i64 0, .slice none 0 0] 26) := ⟨_, rfl⟩
  have hXa : BoxD wa w.heap.size p A n c := by rw [hwa]; exact ((BoxD.made _ _ _ _ _ _).below (below_boxed _ _)).below (below_boxed _ _)
  have hYa : BoxD wa (w.heap.size + 1) q B m d := by
    rw [hwa]
    have := (BoxD.made (w.alloc (.cells #[.int .i64 p, .slice A n c] 26)) q B m d 26).below (below_boxed _ (.cells #[.int .i64 0, .slice none 0 0] 26))
    simpa using this
  have hZa : RBox wa (w.heap.size + 2) := by
    rw [hwa]
    have := RBox.made ((w.alloc (.cells #[.int .i64 p, .slice A n c] 26)).alloc (.cells #[.int .i64 q, .slice B m d] 26)) 26
    simpa using this
  have hBa : Below w.heap.size w wa := by rw [hwa]; exact ((below_boxed _ _).alloc (by simp) _).alloc (by simp; omega) _
  have hsa : w.heap.size + 3 ≤ wa.heap.size := by rw [hwa]; simp
  have HXa := Lib.hid hXa
  have HYa := Lib.hid hYa
  have HZa := Lib.hid hZa
  have HBa := Lib.hid hBa
  have hO := l10Ok_c wa w.heap.size A n c R xss p hXa (hr.below hBa) hn
  rw [hwa] at hO
  have HPe := Lib.hid (fun (W : World) (hX : BoxD W (w.heap.size + 1) q B m d) (hb : Below w.heap.size w W) => l10Ok_c W (w.heap.size + 1) B m d S yss q hX (hy.below hb) hm)
  rcases hd : dsgB p xss with _ | _
  · have h1 : ¬ (dsgB p xss = true ∧ dsgB q yss = true) := by rw [hd]; simp
    rw [show sdP p xss q yss = 0 from if_neg h1, show sdX p xss q yss = [] from if_neg h1, show sdC p xss q yss = 1 from if_neg h1]
    rw [hd] at hO
    have HO := Lib.hid hO
    have HWa := Lib.hid hwa
    clear hO hwa hXa hYa hZa hBa hr hn hd hy hm h1
    go_enter Try.func25, Try.ntmps25
    go_wp2_with fail
    refine (HO.out).mono ?_
    rintro e w' ⟨rfl, k, rfl⟩
    rw [← HWa.out]
    have HX2 := Lib.hid (HXa.out.drewN k)
    have HY2 := Lib.hid (HYa.out.drewN k)
    have HZ2 := Lib.hid (HZa.out.drewN k)
    have HB2 := Lib.hid (below_drewN HBa.out k)
    have hs2 : w.heap.size + 3 ≤ (wa.drewN k).heap.size := hsa
    generalize wa.drewN k = w2 at *
    have rz := HZ2.out
    have z0 := rz.c0
    have z1 := rz.c1
    have y0 := rz.f0
    have y1 := rz.f1
    clear rz
    go_wp2
    obtain ⟨r0, r1⟩ := HZ2.out.read (.int .i64 0) (.slice none 0 0)
    refine bodyPost_ret (v := .tuple #[.agg #[.int .i64 0, .slice none 0 0], .int .i64 1]) (by simp [results, Try.results25, go_sem, r0, r1]) rfl ⟨⟨none, 0, 0, fun _ => (none, 0), rfl, rfl, OwnM.nil_ _ _ _⟩, below_set2 HB2.out (by omega)⟩
  rw [hd] at hO
  have HO := Lib.hid hO
  have HWa := Lib.hid hwa
  rcases hpe : dsgB q yss with _ | _
  · have h1 : ¬ (dsgB p xss = true ∧ dsgB q yss = true) := by rw [hpe]; simp
    rw [show sdP p xss q yss = 0 from if_neg h1, show sdX p xss q yss = [] from if_neg h1, show sdC p xss q yss = 1 from if_neg h1]
    rw [hpe] at HPe
    clear hO hwa hXa hYa hZa hBa hr hn hd hy hm h1 hpe
    go_enter Try.func25, Try.ntmps25
    go_wp2_with fail
    refine (HO.out).mono ?_
    rintro e w' ⟨rfl, k, rfl⟩
    rw [← HWa.out]
    have HX2 := Lib.hid (HXa.out.drewN k)
    have HY2 := Lib.hid (HYa.out.drewN k)
    have HZ2 := Lib.hid (HZa.out.drewN k)
    have HB2 := Lib.hid (below_drewN HBa.out k)
    have hs2 : w.heap.size + 3 ≤ (wa.drewN k).heap.size := hsa
    generalize wa.drewN k = w2 at *
    have HPw := Lib.hid (HPe.out w2 HY2.out HB2.out)
    go_wp2_with fail
    refine (HPw.out).mono ?_
    rintro e w' ⟨rfl, k2, rfl⟩
    have HX4 := Lib.hid (HX2.out.drewN k2)
    have HY4 := Lib.hid (HY2.out.drewN k2)
    have HZ4 := Lib.hid (HZ2.out.drewN k2)
    have HB4 := Lib.hid (below_drewN HB2.out k2)
    have hs4 : w.heap.size + 3 ≤ (w2.drewN k2).heap.size := hs2
    generalize w2.drewN k2 = w4 at *
    have hc0 := HX4.out.c0
    have hc1 := HX4.out.c1
    have hd0 := HY4.out.c0
    have hd1 := HY4.out.c1
    clear hc0 hc1 hd0 hd1
    have rz := HZ4.out
    have z0 := rz.c0
    have z1 := rz.c1
    have y0 := rz.f0
    have y1 := rz.f1
    clear rz
    go_wp2
    obtain ⟨r0, r1⟩ := HZ4.out.read (.int .i64 0) (.slice none 0 0)
    refine bodyPost_ret (v := .tuple #[.agg #[.int .i64 0, .slice none 0 0], .int .i64 1]) (by simp [results, Try.results25, go_sem, r0, r1]) rfl ⟨⟨none, 0, 0, fun _ => (none, 0), rfl, rfl, OwnM.nil_ _ _ _⟩, below_set2 HB4.out (by omega)⟩
  rw [hpe] at HPe
  by_cases hpq : p = q
  rotate_left
  · have h0 : dsgB p xss = true ∧ dsgB q yss = true := ⟨hd, hpe⟩
    rw [show sdP p xss q yss = 0 from (if_pos h0).trans (if_neg hpq), show sdX p xss q yss = [] from (if_pos h0).trans (if_neg hpq), show sdC p xss q yss = 6 from (if_pos h0).trans (if_neg hpq)]
    have hpd : (p == q) = false := by simp [hpq]
    clear hO hwa hXa hYa hZa hBa hr hn hd hy hm h0 hpe hpq
    go_enter Try.func25, Try.ntmps25
    go_wp2_with fail
    refine (HO.out).mono ?_
    rintro e w' ⟨rfl, k, rfl⟩
    rw [← HWa.out]
    have HX2 := Lib.hid (HXa.out.drewN k)
    have HY2 := Lib.hid (HYa.out.drewN k)
    have HZ2 := Lib.hid (HZa.out.drewN k)
    have HB2 := Lib.hid (below_drewN HBa.out k)
    have hs2 : w.heap.size + 3 ≤ (wa.drewN k).heap.size := hsa
    generalize wa.drewN k = w2 at *
    have HPw := Lib.hid (HPe.out w2 HY2.out HB2.out)
    go_wp2_with fail
    refine (HPw.out).mono ?_
    rintro e w' ⟨rfl, k2, rfl⟩
    have HX4 := Lib.hid (HX2.out.drewN k2)
    have HY4 := Lib.hid (HY2.out.drewN k2)
    have HZ4 := Lib.hid (HZ2.out.drewN k2)
    have HB4 := Lib.hid (below_drewN HB2.out k2)
    have hs4 : w.heap.size + 3 ≤ (w2.drewN k2).heap.size := hs2
    generalize w2.drewN k2 = w4 at *
    have hc0 := HX4.out.c0
    have hc1 := HX4.out.c1
    have hd0 := HY4.out.c0
    have hd1 := HY4.out.c1
    have rz := HZ4.out
    have z0 := rz.c0
    have z1 := rz.c1
    have y0 := rz.f0
    have y1 := rz.f1
    clear rz
    go_wp2
    obtain ⟨r0, r1⟩ := HZ4.out.read (.int .i64 0) (.slice none 0 0)
    refine bodyPost_ret (v := .tuple #[.agg #[.int .i64 0, .slice none 0 0], .int .i64 6]) (by simp [results, Try.results25, go_sem, r0, r1]) rfl ⟨⟨none, 0, 0, fun _ => (none, 0), rfl, rfl, OwnM.nil_ _ _ _⟩, below_set2 HB4.out (by omega)⟩
  subst hpq
  have h0 : dsgB p xss = true ∧ dsgB p yss = true := ⟨hd, hpe⟩
  have hD := dsgB_true.1 hd
  have hE := dsgB_true.1 hpe
  have hn128 : n ≤ 128 := by have := hD.2.1; omega
  have hm128 : m ≤ 128 := by have := hE.2.1; omega
  have hpp : 0 ≤ p ∧ p ≤ 32 := by have := hD.1.1; have := hD.1.2; omega
  rw [show sdP p xss p yss = mkP p (xss ++ yss) from (if_pos h0).trans (if_pos rfl), show sdX p xss p yss = mkL (xss ++ yss) from (if_pos h0).trans (if_pos rfl), show sdC p xss p yss = mkC (xss ++ yss) from (if_pos h0).trans (if_pos rfl)]
  have HLen := Lib.hid (fun k (hk : k < n + m) => (show (row (xss ++ yss) k).length ≤ 1048576 from by have := setB_len (P := 32) (setB_more (blockB_set (sd_block hD.2.2 hE.2.2 (show k < (xss ++ yss).length by rw [List.length_append]; omega))) hpp.2 (by omega)); omega))
  have HBlk := Lib.hid (fun k (hk : k < n + m) => (show blockB (row (xss ++ yss) k) p = true from sd_block hD.2.2 hE.2.2 (by rw [List.length_append]; omega)))
  have HNN := Lib.hid (show (xss ++ yss).length = n + m by rw [List.length_append, hn, hm])
  have HR := Lib.hid hr
  have HRy := Lib.hid hy
  have HN := Lib.hid hn
  have HM := Lib.hid hm
  have HMk := Lib.hid (fun (W : World) (A7 : Option Addr) (c7 : Nat) (h7 : RdM W A7 c7 (joinS R S n) (xss ++ yss)) => l10Make_c W p A7 (n + m) c7 (joinS R S n) (xss ++ yss) h7 HNN.out (by omega) (fun k hk => HLen.out k hk) hpp.1 hpp.2 (fun k hk => HBlk.out k hk))
  generalize mkP p (xss ++ yss) = rP at *
  generalize mkL (xss ++ yss) = rX at *
  generalize mkC (xss ++ yss) = rC at *
  clear hO hwa hXa hYa hZa hBa hr hn hd hy hm h0 hpe hD hE
  go_enter Try.func25, Try.ntmps25
  go_wp2_with fail
  refine (HO.out).mono ?_
  rintro e w' ⟨rfl, k, rfl⟩
  rw [← HWa.out]
  have HX2 := Lib.hid (HXa.out.drewN k)
  have HY2 := Lib.hid (HYa.out.drewN k)
  have HZ2 := Lib.hid (HZa.out.drewN k)
  have HB2 := Lib.hid (below_drewN HBa.out k)
  have hs2 : w.heap.size + 3 ≤ (wa.drewN k).heap.size := hsa
  generalize wa.drewN k = w2 at *
  have HPw := Lib.hid (HPe.out w2 HY2.out HB2.out)
  go_wp2_with fail
  refine (HPw.out).mono ?_
  rintro e w' ⟨rfl, k2, rfl⟩
  have HX4 := Lib.hid (HX2.out.drewN k2)
  have HY4 := Lib.hid (HY2.out.drewN k2)
  have HZ4 := Lib.hid (HZ2.out.drewN k2)
  have HB4 := Lib.hid (below_drewN HB2.out k2)
  have hs4 : w.heap.size + 3 ≤ (w2.drewN k2).heap.size := hs2
  generalize w2.drewN k2 = w4 at *
  have hc0 := HX4.out.c0
  have hc1 := HX4.out.c1
  have hd0 := HY4.out.c0
  have hd1 := HY4.out.c1
  have HR4 := Lib.hid (HR.out.below HB4.out)
  have HLit := Lib.hid (show (w4.alloc (.cells #[] 37)).ownsRow w4.heap.size 37 1 (.slice (some ⟨w4.heap.size, 0, none⟩) 0 0) 0 [] from World.ownsRow_lit (e := 37) (size := 1) w4 #[] 0 (Nat.le_refl _) (by unfold maxLen; omega) rfl)
  have HRl := Lib.hid (HR4.out.below (below_boxed w4 (.cells #[] 37)))
  have hca1 : (w4.alloc (.cells #[] 37)).cell? ⟨w.heap.size, 1, none⟩ = some (.slice A n c) := ((below_boxed w4 (.cells #[] 37)).cell (p := ⟨w.heap.size, 1, none⟩) (show w.heap.size < w4.heap.size by omega)).trans hc1
  go_wp2_with (at_builtin; refine wpA_append rfl _ _ rfl w4.heap.size (some ⟨w4.heap.size, 0, none⟩) 0 0 [] A n c R xss rfl rfl HLit.out HRl.out HN.out (by omega) (by simp) ?_; intro A5 c5 w5 ho5 hg5 ha5; refine stop_ ?_)
  have HB5 := Lib.hid (show Below w4.heap.size w4 w5 from ((Below.refl w4.heap.size w4).alloc (Nat.le_refl _) (.cells #[] 37)).trans (below_blkV HLit.out hg5 (Nat.le_refl _) (by simp)))
  have HO5 := Lib.hid (show w5.ownsRow w4.heap.size 37 1 (.slice A5 (0 + n) c5) (0 + n) (valsM R xss) from ho5)
  have hsz5 := HB5.out.size
  have hx5 := HX4.out.below HB5.out
  have hy5 := HY4.out.below HB5.out
  clear hc0 hc1 hd0 hd1 hca1 ho5 hg5 ha5
  have hc0 := hx5.c0
  have hc1 := hx5.c1
  have hd1 := hy5.c1
  have HZ5 := Lib.hid (HZ4.out.step (lo := w4.heap.size) (by omega) HB5.out)
  have HBw := Lib.hid (HB4.out.trans (HB5.out.mono HB4.out.size))
  have HOd := Lib.hid (show w5.drew.ownsRow w4.heap.size 37 1 (.slice A5 n c5) n (valsM R xss) from by have := HO5.out; rw [Nat.zero_add] at this; exact this)
  have HBd := Lib.hid (show Below w.heap.size w w5.drew from HBw.out.drew)
  have HZd := Lib.hid (show RBox w5.drew (w.heap.size + 2) from HZ5.out.drewN 1)
  have HRyd := Lib.hid (HRy.out.below HBd.out)
  have hszd : w4.heap.size ≤ w5.drew.heap.size := hsz5
  have hq1 : w.heap.size < w4.heap.size := by omega
  have hq2 : w.heap.size + 1 < w4.heap.size := by omega
  have hq3 : w.heap.size < w.heap.size + 2 := by omega
  have hq4 : w.heap.size + 1 < w.heap.size + 2 := by omega
  have hzz : w.heap.size + 2 < w4.heap.size := by omega
  try rw [Nat.zero_add]
  clear hx5 hy5
  refine Lib.hid ?_
  go_wp2
  go_region_held3 (fun w' => w'.cell? ⟨w.heap.size, 0, none⟩ = some (.int .i64 p) ∧ w'.cell? ⟨w.heap.size, 1, none⟩ = some (.slice A n c) ∧ w'.cell? ⟨w.heap.size + 1, 1, none⟩ = some (.slice B m d)) (first | exact ⟨hc0, hc1, hd1⟩ | exact hS7 | exact hS9 | exact hSs _ _)
    (first | (go_at_call 46; refine (HMk.out w7 A7 c7 hr7).mono ?_; rintro e w9 ⟨⟨A9, n9, c9, R9, rfl, hn9, ho9⟩, hb9⟩; have hb79 := hb7.trans (hb9.mono (Nat.le_trans hszd hb7.size)); have hS9 := keep2 hb79 hq1 hq1 hq2 ⟨hc0, hc1, hd1⟩; have hSs := fun u0 u1 => keep2 (below_set2 (u0 := u0) (u1 := u1) (Below.refl (w.heap.size + 2) w9) (Nat.le_refl (w.heap.size + 2))) hq3 hq3 hq4 hS9; have HZ9 := Lib.hid (HZd.out.step hzz hb79); have HB9 := Lib.hid (HBd.out.trans (hb79.mono HB4.out.size)); have z0 := HZ9.out.c0; have z1 := HZ9.out.c1; have y0 := HZ9.out.f0; have y1 := HZ9.out.f1; have hs7 := hb7.size) | (refine stepA_append rfl _ _ rfl w4.heap.size A5 c5 n (valsM R xss) B m d S yss (by rfl) (by rfl) HOd.out HRyd.out HM.out (by omega) hszd ?_; intro A7 c7 w7 ho7 hg7 ha7; have hb7 := below_blkV HOd.out hg7 (Nat.le_refl _) hszd; have hS7 := keep2 hb7 hq1 hq1 hq2 ⟨hc0, hc1, hd1⟩; have hbw7 := HBd.out.trans (hb7.mono HB4.out.size); have hr7 := sd_join HN.out HM.out ho7 (HR.out.below hbw7) (HRy.out.below hbw7)))
  have HO10 := Lib.hid (show OwnM w9 (w.heap.size + 2 + 1) A9 c9 R9 rX from ho9.lower (by omega))
  have HN9 := Lib.hid hn9
  clear ho9 hn9
  go_wp2
  obtain ⟨r0, r1⟩ := HZ9.out.read (.int .i64 rP) (.slice A9 n9 c9)
  refine bodyPost_ret (v := .tuple #[.agg #[.int .i64 rP, .slice A9 n9 c9], .int .i64 rC]) (by simp [results, Try.results25, go_sem, r0, r1]) rfl ⟨⟨A9, n9, c9, R9, rfl, HN9.out, own_set2 HO10.out (by omega) _ _⟩, below_set2 HB9.out (by omega)⟩
end Go.Proofs.Ytdneldecedbepaa
