/-
  RemoveLine of both sides. Conditions: those of each theorem.
-/
import Derived.Test.YtdneldecedbepaaPart4
import Derived.Test.YtdneldecedbepaaPlane
namespace Go.Proofs.Ytdneldecedbepaa
open Go.RowKit
set_option linter.unusedVariables false
set_option linter.unusedSimpArgs false

def rlP (p : Int) (xss : List (List Int)) (j : Int) : Int := if hbC p xss j = 0 then (if prjI p xss = 0 then 0 else rdP p xss j) else 0
def rlX (p : Int) (xss : List (List Int)) (j : Int) : List (List Int) := if hbC p xss j = 0 then (if prjI p xss = 0 then [] else rdX p xss j) else []
def rlC (p : Int) (xss : List (List Int)) (j : Int) : Int := if hbC p xss j = 0 then (if prjI p xss = 0 then 6 else rdC p xss j) else hbC p xss j
theorem RemoveLine_small (p : Int) (xss : List (List Int)) (j : Int) : (rlX p xss j).length ≤ 1048576 ∧ tot (rlX p xss j) ≤ 1048576 := by
  unfold rlX
  split
  · split
    · simp [tot]
    · exact ResidualDesign_small p xss j
  · simp [tot]

set_option maxRecDepth 100000 in
set_option maxHeartbeats 8000000 in
theorem specRemoveLine_c (w : World) (p : Int) (hp : -9223372036854775808 ≤ p ∧ p ≤ 9223372036854775807) (A : Option Addr) (n c : Nat) (R : Spine) (xss : List (List Int)) (hr : RdM w A c R xss) (hn : xss.length = n) (hw : WfM xss) (hz : (n : Int) + (tot xss : Nat) ≤ 1048576) (j : Int) (hj64 : -9223372036854775808 ≤ j ∧ j ≤ 9223372036854775807) :
    Calls Try.prog 38 #[.agg #[.int .i64 p, .slice A n c], .int .i64 j] w (PostDC w (rlP p xss j) (rlX p xss j) (rlC p xss j)) := by
  have hzD := zeroD
  obtain ⟨wa, hwa⟩ : ∃ wa, wa = (w.alloc (.cells #[.int .i64 p, .slice A n c] 26)).alloc (.cells #[.int .i64 0, .slice none 0 0] 26) := ⟨_, rfl⟩
  have hXa : BoxD wa w.heap.size p A n c := by rw [hwa]; exact (BoxD.made _ _ _ _ _ _).below (below_boxed _ _)
  have hZa : RBox wa (w.heap.size + 1) := by
    rw [hwa]
    have := RBox.made (w.alloc (.cells #[.int .i64 p, .slice A n c] 26)) 26
    simpa using this
  have hBa : Below w.heap.size w wa := by rw [hwa]; exact (below_boxed _ _).alloc (by simp) _
  have hsa : w.heap.size + 2 ≤ wa.heap.size := by rw [hwa]; simp
  have HXa := Lib.hid hXa
  have HZa := Lib.hid hZa
  have HBa := Lib.hid hBa
  have hO := l10Ok_c wa w.heap.size A n c R xss p hXa (hr.below hBa) hn
  rw [hwa] at hO
  have HPr := Lib.hid (fun (W : World) (hX : BoxD W w.heap.size p A n c) (hb : Below w.heap.size w W) => l12Projective_c W w.heap.size p A n c R xss hX (hr.below hb) hn)
  have HRs := Lib.hid (fun (W : World) (hb : Below w.heap.size w W) => specResidualDesign_c W p hp A n c R xss (hr.below hb) hn hw hz j hj64)
  rcases hd : dsgB p xss with _ | _
  · have h1 : hbC p xss j = 1 := by unfold hbC; rw [hd]; rfl
    have h0 : ¬ hbC p xss j = 0 := by omega
    rw [show rlP p xss j = 0 from if_neg h0, show rlX p xss j = [] from if_neg h0, show rlC p xss j = 1 from (if_neg h0).trans h1]
    rw [hd] at hO
    have HO := Lib.hid hO
    have HWa := Lib.hid hwa
    clear hO hwa hXa hZa hBa hr hn hp hd hw hz
    go_enter Try.func38, Try.ntmps38
    go_wp2_with fail
    refine (HO.out).mono ?_
    rintro e w' ⟨rfl, q, rfl⟩
    rw [← HWa.out]
    have HZ2 := Lib.hid (HZa.out.drewN q)
    have HB2 := Lib.hid (below_drewN HBa.out q)
    generalize wa.drewN q = w2 at *
    have rz := HZ2.out
    have z0 := rz.c0
    have z1 := rz.c1
    have y0 := rz.f0
    have y1 := rz.f1
    clear rz
    go_wp2
    obtain ⟨r0, r1⟩ := HZ2.out.read (.int .i64 0) (.slice none 0 0)
    refine bodyPost_ret (v := .tuple #[.agg #[.int .i64 0, .slice none 0 0], .int .i64 1]) (by simp [results, Try.results38, go_sem, r0, r1]) rfl ⟨⟨none, 0, 0, fun _ => (none, 0), rfl, rfl, OwnM.nil_ _ _ _⟩, below_set2 HB2.out (by omega)⟩
  · have hn128 : n ≤ 128 := by have := (dsgB_true.1 hd).2.1; omega
    have hC : hbC p xss j = if inB j 0 ((n : Int) - 1) = true then 0 else 2 := by unfold hbC; rw [if_pos hd, hn]
    have hIn := fun W => in_c j 0 ((n : Int) - 1) W
    rw [hd] at hO
    have HO := Lib.hid hO
    have HWa := Lib.hid hwa
    rcases hi : inB j 0 ((n : Int) - 1) with _ | _
    · rw [hi] at hC
      simp only [hi] at hIn
      have h2 : hbC p xss j = 2 := hC
      have h0 : ¬ hbC p xss j = 0 := by omega
      rw [show rlP p xss j = 0 from if_neg h0, show rlX p xss j = [] from if_neg h0, show rlC p xss j = 2 from (if_neg h0).trans h2]
      have HIn := Lib.hid hIn
      clear hO hwa hXa hZa hBa hr hn hp hd hw hz hC h2 h0 hi hIn
      go_enter Try.func38, Try.ntmps38
      go_wp2_with fail
      refine (HO.out).mono ?_
      rintro e w' ⟨rfl, q, rfl⟩
      rw [← HWa.out]
      have HX2 := Lib.hid (HXa.out.drewN q)
      have HZ2 := Lib.hid (HZa.out.drewN q)
      have HB2 := Lib.hid (below_drewN HBa.out q)
      have hs2 : w.heap.size + 2 ≤ (wa.drewN q).heap.size := hsa
      generalize wa.drewN q = w2 at *
      have hc0 := HX2.out.c0
      have hc1 := HX2.out.c1
      go_wp2_with fail
      refine (HIn.out w2).mono ?_
      rintro e w' ⟨rfl, rfl⟩
      have rz := HZ2.out
      have z0 := rz.c0
      have z1 := rz.c1
      have y0 := rz.f0
      have y1 := rz.f1
      clear rz
      go_wp2
      obtain ⟨r0, r1⟩ := HZ2.out.read (.int .i64 0) (.slice none 0 0)
      refine bodyPost_ret (v := .tuple #[.agg #[.int .i64 0, .slice none 0 0], .int .i64 2]) (by simp [results, Try.results38, go_sem, r0, r1]) rfl ⟨⟨none, 0, 0, fun _ => (none, 0), rfl, rfl, OwnM.nil_ _ _ _⟩, below_set2 HB2.out (by omega)⟩
    · rw [hi] at hC
      simp only [hi] at hIn
      have h0 : hbC p xss j = 0 := hC
      have HIn := Lib.hid hIn
      by_cases hq : prjI p xss = 0
      · rw [show rlP p xss j = 0 from (if_pos h0).trans (if_pos hq), show rlX p xss j = [] from (if_pos h0).trans (if_pos hq), show rlC p xss j = 6 from (if_pos h0).trans (if_pos hq)]
        rw [hq] at HPr
        clear hO hwa hXa hZa hBa hr hn hp hd hw hz hC h0 hi hIn hq
        go_enter Try.func38, Try.ntmps38
        go_wp2_with fail
        refine (HO.out).mono ?_
        rintro e w' ⟨rfl, q, rfl⟩
        rw [← HWa.out]
        have HX2 := Lib.hid (HXa.out.drewN q)
        have HZ2 := Lib.hid (HZa.out.drewN q)
        have HB2 := Lib.hid (below_drewN HBa.out q)
        have hs2 : w.heap.size + 2 ≤ (wa.drewN q).heap.size := hsa
        generalize wa.drewN q = w2 at *
        have hc0 := HX2.out.c0
        have hc1 := HX2.out.c1
        go_wp2_with fail
        refine (HIn.out w2).mono ?_
        rintro e w' ⟨rfl, rfl⟩
        have HPw := Lib.hid (HPr.out w2 HX2.out HB2.out)
        clear hc0 hc1
        go_wp2_with fail
        refine (HPw.out).mono ?_
        rintro e w3 ⟨rfl, hb3⟩
        have HZ3 := Lib.hid (HZ2.out.step (lo := w2.heap.size) (by omega) hb3)
        have HB3 := Lib.hid (HB2.out.trans (hb3.mono HB2.out.size))
        clear hb3
        have rz := HZ3.out
        have z0 := rz.c0
        have z1 := rz.c1
        have y0 := rz.f0
        have y1 := rz.f1
        clear rz
        go_wp2
        obtain ⟨r0, r1⟩ := HZ3.out.read (.int .i64 0) (.slice none 0 0)
        refine bodyPost_ret (v := .tuple #[.agg #[.int .i64 0, .slice none 0 0], .int .i64 6]) (by simp [results, Try.results38, go_sem, r0, r1]) rfl ⟨⟨none, 0, 0, fun _ => (none, 0), rfl, rfl, OwnM.nil_ _ _ _⟩, below_set2 HB3.out (by omega)⟩
      · rw [show rlP p xss j = rdP p xss j from (if_pos h0).trans (if_neg hq), show rlX p xss j = rdX p xss j from (if_pos h0).trans (if_neg hq), show rlC p xss j = rdC p xss j from (if_pos h0).trans (if_neg hq)]
        have hqd : (prjI p xss == 0) = false := by simp [hq]
        clear hO hwa hXa hZa hBa hr hn hp hd hw hz hC h0 hi hIn hq
        generalize prjI p xss = t at *
        generalize rdP p xss j = rP at *
        generalize rdX p xss j = rX at *
        generalize rdC p xss j = rC at *
        go_enter Try.func38, Try.ntmps38
        go_wp2_with fail
        refine (HO.out).mono ?_
        rintro e w' ⟨rfl, q, rfl⟩
        rw [← HWa.out]
        have HX2 := Lib.hid (HXa.out.drewN q)
        have HZ2 := Lib.hid (HZa.out.drewN q)
        have HB2 := Lib.hid (below_drewN HBa.out q)
        have hs2 : w.heap.size + 2 ≤ (wa.drewN q).heap.size := hsa
        generalize wa.drewN q = w2 at *
        have hc0 := HX2.out.c0
        have hc1 := HX2.out.c1
        go_wp2_with fail
        refine (HIn.out w2).mono ?_
        rintro e w' ⟨rfl, rfl⟩
        have HPw := Lib.hid (HPr.out w2 HX2.out HB2.out)
        clear hc0 hc1
        go_wp2_with fail
        refine (HPw.out).mono ?_
        rintro e w3 ⟨rfl, hb3⟩
        have HX3 := Lib.hid (HX2.out.below hb3)
        have HZ3 := Lib.hid (HZ2.out.step (lo := w2.heap.size) (by omega) hb3)
        have HB3 := Lib.hid (HB2.out.trans (hb3.mono HB2.out.size))
        have hs3 : w.heap.size + 2 ≤ w3.heap.size := by have := hb3.size; omega
        have hc0 := HX3.out.c0
        have hc1 := HX3.out.c1
        have HRw := Lib.hid (HRs.out w3 HB3.out)
        clear hb3
        go_wp2_with fail
        refine (HRw.out).mono ?_
        rintro e w9 ⟨⟨A9, n9, c9, R9, rfl, hn9, ho9⟩, hb9⟩
        have HZ9 := Lib.hid (HZ3.out.step (lo := w3.heap.size) (by omega) hb9)
        have HB9 := Lib.hid (HB3.out.trans (hb9.mono HB3.out.size))
        have HO9 := Lib.hid (show OwnM w9 (w.heap.size + 1 + 1) A9 c9 R9 (rX) from ho9.lower (by omega))
        have HN9 := Lib.hid hn9
        clear hb9 ho9 hn9
        generalize rX = lst at *
        generalize rP = ptz at *
        generalize rC = cdz at *
        have rz := HZ9.out
        have z0 := rz.c0
        have z1 := rz.c1
        have y0 := rz.f0
        have y1 := rz.f1
        clear rz
        go_wp2
        obtain ⟨r0, r1⟩ := HZ9.out.read (.int .i64 ptz) (.slice A9 n9 c9)
        refine bodyPost_ret (v := .tuple #[.agg #[.int .i64 ptz, .slice A9 n9 c9], .int .i64 cdz]) (by simp [results, Try.results38, go_sem, r0, r1]) rfl ⟨⟨A9, n9, c9, R9, rfl, HN9.out, own_set2 HO9.out (by omega) _ _⟩, below_set2 HB9.out (by omega)⟩

set_option maxRecDepth 100000 in
set_option maxHeartbeats 8000000 in
theorem implRemoveLine_c (w : World) (p : Int) (hp : -9223372036854775808 ≤ p ∧ p ≤ 9223372036854775807) (A : Option Addr) (n c : Nat) (R : Spine) (xss : List (List Int)) (hr : RdM w A c R xss) (hn : xss.length = n) (hw : WfM xss) (hz : (n : Int) + (tot xss : Nat) ≤ 1048576) (j : Int) (hj64 : -9223372036854775808 ≤ j ∧ j ≤ 9223372036854775807) :
    Calls Try.prog 39 #[.agg #[.int .i64 p, .slice A n c], .int .i64 j] w (PostDC w (rlP p xss j) (rlX p xss j) (rlC p xss j)) := by
  have hzD := zeroD
  obtain ⟨wa, hwa⟩ : ∃ wa, wa = (w.alloc (.cells #[.int .i64 p, .slice A n c] 26)).alloc (.cells #[.int .i64 0, .slice none 0 0] 26) := ⟨_, rfl⟩
  have hXa : BoxD wa w.heap.size p A n c := by rw [hwa]; exact (BoxD.made _ _ _ _ _ _).below (below_boxed _ _)
  have hZa : RBox wa (w.heap.size + 1) := by
    rw [hwa]
    have := RBox.made (w.alloc (.cells #[.int .i64 p, .slice A n c] 26)) 26
    simpa using this
  have hBa : Below w.heap.size w wa := by rw [hwa]; exact (below_boxed _ _).alloc (by simp) _
  have hsa : w.heap.size + 2 ≤ wa.heap.size := by rw [hwa]; simp
  have HXa := Lib.hid hXa
  have HZa := Lib.hid hZa
  have HBa := Lib.hid hBa
  have hO := hasBlock_c wa p j A n c R xss (hr.below hBa) hn
  rw [hwa] at hO
  have HPr := Lib.hid (fun (W : World) (hb : Below w.heap.size w W) => implProjectiveOrder_c W p hp A n c R xss (hr.below hb) hn hw hz)
  have HRs := Lib.hid (fun (W : World) (hb : Below w.heap.size w W) => implResidualDesign_c W p hp A n c R xss (hr.below hb) hn hw hz j hj64)
  by_cases h0 : hbC p xss j = 0
  rotate_left
  · rw [show rlP p xss j = 0 from if_neg h0, show rlX p xss j = [] from if_neg h0, show rlC p xss j = hbC p xss j from if_neg h0]
    have HO := Lib.hid hO
    have HWa := Lib.hid hwa
    generalize hbC p xss j = code at *
    have hcd : (code == 0) = false := by simp [h0]
    clear hO hwa hXa hZa hBa hr hn hp hw hz
    go_enter Try.func39, Try.ntmps39
    go_wp2_with fail
    refine (HO.out).mono ?_
    rintro e w2 ⟨rfl, hb2⟩
    rw [← HWa.out] at hb2
    have HZ2 := Lib.hid (HZa.out.step (lo := wa.heap.size) (by omega) hb2)
    have HB2 := Lib.hid (HBa.out.trans (hb2.mono HBa.out.size))
    clear hb2
    have rz := HZ2.out
    have z0 := rz.c0
    have z1 := rz.c1
    have y0 := rz.f0
    have y1 := rz.f1
    clear rz
    go_wp2
    obtain ⟨r0, r1⟩ := HZ2.out.read (.int .i64 0) (.slice none 0 0)
    refine bodyPost_ret (v := .tuple #[.agg #[.int .i64 0, .slice none 0 0], .int .i64 code]) (by simp [results, Try.results39, go_sem, r0, r1]) rfl ⟨⟨none, 0, 0, fun _ => (none, 0), rfl, rfl, OwnM.nil_ _ _ _⟩, below_set2 HB2.out (by omega)⟩
  rw [h0] at hO
  have HO := Lib.hid hO
  have HWa := Lib.hid hwa
  by_cases hq : prjI p xss = 0
  · rw [show rlP p xss j = 0 from (if_pos h0).trans (if_pos hq), show rlX p xss j = [] from (if_pos h0).trans (if_pos hq), show rlC p xss j = 6 from (if_pos h0).trans (if_pos hq)]
    rw [hq] at HPr
    clear hO hwa hXa hZa hBa hr hn hp hw hz h0 hq
    go_enter Try.func39, Try.ntmps39
    go_wp2_with fail
    refine (HO.out).mono ?_
    rintro e w2 ⟨rfl, hb2⟩
    rw [← HWa.out] at hb2
    have HX2 := Lib.hid (HXa.out.below hb2)
    have HZ2 := Lib.hid (HZa.out.step (lo := wa.heap.size) (by omega) hb2)
    have HB2 := Lib.hid (HBa.out.trans (hb2.mono HBa.out.size))
    have hs2 : w.heap.size + 2 ≤ w2.heap.size := by have := hb2.size; omega
    have hc0 := HX2.out.c0
    have hc1 := HX2.out.c1
    have HPw := Lib.hid (HPr.out w2 HB2.out)
    clear hb2
    go_wp2_with fail
    refine (HPw.out).mono ?_
    rintro e w3 ⟨rfl, hb3⟩
    have HX3 := Lib.hid (HX2.out.below hb3)
    have HZ3 := Lib.hid (HZ2.out.step (lo := w2.heap.size) (by omega) hb3)
    have HB3 := Lib.hid (HB2.out.trans (hb3.mono HB2.out.size))
    have hs3 : w.heap.size + 2 ≤ w3.heap.size := by have := hb3.size; omega
    clear hb3 hc0 hc1
    have rz := HZ3.out
    have z0 := rz.c0
    have z1 := rz.c1
    have y0 := rz.f0
    have y1 := rz.f1
    clear rz
    go_wp2
    obtain ⟨r0, r1⟩ := HZ3.out.read (.int .i64 0) (.slice none 0 0)
    refine bodyPost_ret (v := .tuple #[.agg #[.int .i64 0, .slice none 0 0], .int .i64 6]) (by simp [results, Try.results39, go_sem, r0, r1]) rfl ⟨⟨none, 0, 0, fun _ => (none, 0), rfl, rfl, OwnM.nil_ _ _ _⟩, below_set2 HB3.out (by omega)⟩
  · rw [show rlP p xss j = rdP p xss j from (if_pos h0).trans (if_neg hq), show rlX p xss j = rdX p xss j from (if_pos h0).trans (if_neg hq), show rlC p xss j = rdC p xss j from (if_pos h0).trans (if_neg hq)]
    have hqd : (prjI p xss == 0) = false := by simp [hq]
    clear hO hwa hXa hZa hBa hr hn hp hw hz h0 hq
    generalize prjI p xss = t at *
    generalize rdP p xss j = rP at *
    generalize rdX p xss j = rX at *
    generalize rdC p xss j = rC at *
    go_enter Try.func39, Try.ntmps39
    go_wp2_with fail
    refine (HO.out).mono ?_
    rintro e w2 ⟨rfl, hb2⟩
    rw [← HWa.out] at hb2
    have HX2 := Lib.hid (HXa.out.below hb2)
    have HZ2 := Lib.hid (HZa.out.step (lo := wa.heap.size) (by omega) hb2)
    have HB2 := Lib.hid (HBa.out.trans (hb2.mono HBa.out.size))
    have hs2 : w.heap.size + 2 ≤ w2.heap.size := by have := hb2.size; omega
    have hc0 := HX2.out.c0
    have hc1 := HX2.out.c1
    have HPw := Lib.hid (HPr.out w2 HB2.out)
    clear hb2
    go_wp2_with fail
    refine (HPw.out).mono ?_
    rintro e w3 ⟨rfl, hb3⟩
    have HX3 := Lib.hid (HX2.out.below hb3)
    have HZ3 := Lib.hid (HZ2.out.step (lo := w2.heap.size) (by omega) hb3)
    have HB3 := Lib.hid (HB2.out.trans (hb3.mono HB2.out.size))
    have hs3 : w.heap.size + 2 ≤ w3.heap.size := by have := hb3.size; omega
    clear hb3 hc0 hc1
    have hc0 := HX3.out.c0
    have hc1 := HX3.out.c1
    have HRw := Lib.hid (HRs.out w3 HB3.out)
    go_wp2_with fail
    refine (HRw.out).mono ?_
    rintro e w9 ⟨⟨A9, n9, c9, R9, rfl, hn9, ho9⟩, hb9⟩
    have HZ9 := Lib.hid (HZ3.out.step (lo := w3.heap.size) (by omega) hb9)
    have HB9 := Lib.hid (HB3.out.trans (hb9.mono HB3.out.size))
    have HO9 := Lib.hid (show OwnM w9 (w.heap.size + 1 + 1) A9 c9 R9 (rX) from ho9.lower (by omega))
    have HN9 := Lib.hid hn9
    clear hb9 ho9 hn9
    generalize rX = lst at *
    generalize rP = ptz at *
    generalize rC = cdz at *
    have rz := HZ9.out
    have z0 := rz.c0
    have z1 := rz.c1
    have y0 := rz.f0
    have y1 := rz.f1
    clear rz
    go_wp2
    obtain ⟨r0, r1⟩ := HZ9.out.read (.int .i64 ptz) (.slice A9 n9 c9)
    refine bodyPost_ret (v := .tuple #[.agg #[.int .i64 ptz, .slice A9 n9 c9], .int .i64 cdz]) (by simp [results, Try.results39, go_sem, r0, r1]) rfl ⟨⟨A9, n9, c9, R9, rfl, HN9.out, own_set2 HO9.out (by omega) _ _⟩, below_set2 HB9.out (by omega)⟩
end Go.Proofs.Ytdneldecedbepaa
