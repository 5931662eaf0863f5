/-
  DerivedDesign of both sides. Conditions: those of each theorem.
-/
import Derived.Test.YtdneldecedbepaaPart2
namespace Go.Proofs.Ytdneldecedbepaa
open Go.RowKit
set_option linter.unusedVariables false
set_option linter.unusedSimpArgs false

set_option maxRecDepth 100000 in
set_option maxHeartbeats 8000000 in
theorem specDerivedDesign_c (w : World) (p : Int) (hp : -9223372036854775808 ≤ p ∧ p ≤ 9223372036854775807) (A : Option Addr) (n c : Nat) (R : Spine) (xss : List (List Int)) (hr : RdM w A c R xss) (hn : xss.length = n) (hw : WfM xss) (hz : (n : Int) + (tot xss : Nat) ≤ 1048576) (j : Int) (hj64 : -9223372036854775808 ≤ j ∧ j ≤ 9223372036854775807) :
    Calls Try.prog 19 #[.agg #[.int .i64 p, .slice A n c], .int .i64 j] w (PostDC w (drP p xss j) (drX p xss j) (drC p xss j)) := by
  clear hw hz
  have hzD := zeroD
  obtain ⟨wa, hwa⟩ : ∃ wa, wa = (w.alloc (.cells #[.int .i64 p, .slice A n c] 26)).alloc (.cells #[.int .i64 0, .slice none 0 0] 26) := ⟨_, rfl⟩
  have hXa : BoxD wa w.heap.size p A n c := by rw [hwa]; exact (BoxD.made _ _ _ _ _ _).below (below_boxed _ _)
  have hZa : RBox wa (w.heap.size + 1) := by
    rw [hwa]
    have := RBox.made (w.alloc (.cells #[.int .i64 p, .slice A n c] 26)) 26
    simpa using this
  have hBa : Below w.heap.size w wa := by rw [hwa]; exact (below_boxed _ _).alloc (by simp) _
  have hsa : w.heap.size + 2 ≤ wa.heap.size := by rw [hwa]; simp
  have HXa := Lib.hid hXa
  have HZa := Lib.hid hZa
  have HBa := Lib.hid hBa
  have hO := l10Ask_c wa w.heap.size p j A n c R xss hXa (hr.below hBa) hn
  rw [hwa] at hO
  by_cases h0 : hbC p xss j = 0
  rotate_left
  · rw [show drP p xss j = 0 by unfold drP atP; rw [if_neg h0], show drX p xss j = [] by unfold drX atX; rw [if_neg h0], show drC p xss j = hbC p xss j by unfold drC atC; rw [if_neg h0]]
    have HO := Lib.hid hO
    have HWa := Lib.hid hwa
    generalize hbC p xss j = code at *
    have hcd : (code == 0) = false := by simp [h0]
    clear hO hwa hXa hZa hBa hr hn hp
    go_enter Try.func19, Try.ntmps19
    go_wp2_with fail
    refine (HO.out).mono ?_
    rintro e w' ⟨rfl, q, rfl⟩
    rw [← HWa.out]
    have HZ2 := Lib.hid (HZa.out.drewN q)
    have HB2 := Lib.hid (below_drewN HBa.out q)
    generalize wa.drewN q = w2 at *
    have rz := HZ2.out
    have z0 := rz.c0
    have z1 := rz.c1
    have y0 := rz.f0
    have y1 := rz.f1
    clear rz
    go_wp2
    obtain ⟨r0, r1⟩ := HZ2.out.read (.int .i64 0) (.slice none 0 0)
    refine bodyPost_ret (v := .tuple #[.agg #[.int .i64 0, .slice none 0 0], .int .i64 code]) (by simp [results, Try.results19, go_sem, r0, r1]) rfl ⟨⟨none, 0, 0, fun _ => (none, 0), rfl, rfl, OwnM.nil_ _ _ _⟩, below_set2 HB2.out (by omega)⟩
  obtain ⟨hd, hj0, hjn⟩ := hbC_zero h0
  obtain ⟨J, rfl⟩ : ∃ J : Nat, j = (J : Int) := ⟨j.toNat, by omega⟩
  have hJx : J < xss.length := by omega
  have hJ1 : (0 : Int) ≤ (J : Int) := by omega
  have hJ2 : (J : Int) < (n : Int) := by omega
  have hD := dsgB_true.1 hd
  obtain ⟨P, rfl⟩ : ∃ P : Nat, p = (P : Int) := ⟨p.toNat, by have := hD.1.1; omega⟩
  have hP : P ≤ 32 := by have := hD.1.2; omega
  have hn128 : n ≤ 128 := by have := hD.2.1; omega
  have hset : ∀ k, k < xss.length → setB (row xss k) 32 = true := fun k hk => setB_more (blockB_set (hD.2.2 k hk).1) (by omega) (by omega)
  obtain ⟨b, off, eA, hb, hc⟩ := hr.at_ J hJx
  subst eA
  have hbl : b < w.heap.size := hb
  have HPt := Lib.hid (fun (W : World) (hX : BoxD W w.heap.size (P : Int) (some ⟨b, off, none⟩) n c) (hb : Below w.heap.size w W) => l10Part_c W w.heap.size (P : Int) (J : Int) (some ⟨b, off, none⟩) (R J).1 n c (row xss J).length (R J).2 R xss (row xss J) hX (hr.below hb) hn hn128 ((hr.below hb).rows J hJx) rfl hset (hset J hJx))
  rw [show drP (P : Int) xss (J : Int) = ptP xss (J : Int) (row xss J) from if_pos h0, show drX (P : Int) xss (J : Int) = ptX xss (J : Int) (row xss J) from if_pos h0, show drC (P : Int) xss (J : Int) = ptC xss (J : Int) (row xss J) from if_pos h0]
  rw [h0] at hO
  have HO := Lib.hid hO
  have HWa := Lib.hid hwa
  have HC := Lib.hid hc
  generalize ptP xss (J : Int) (row xss J) = rP at *
  generalize ptX xss (J : Int) (row xss J) = rX at *
  generalize ptC xss (J : Int) (row xss J) = rC at *
  clear hO hwa hXa hZa hBa hd hr hn hp hD hset h0 hc
  go_enter Try.func19, Try.ntmps19
  go_wp2_with fail
  refine (HO.out).mono ?_
  rintro e w' ⟨rfl, q, rfl⟩
  rw [← HWa.out]
  have HX2 := Lib.hid (HXa.out.drewN q)
  have HZ2 := Lib.hid (HZa.out.drewN q)
  have HB2 := Lib.hid (below_drewN HBa.out q)
  have hs2 : w.heap.size + 2 ≤ (wa.drewN q).heap.size := hsa
  generalize wa.drewN q = w2 at *
  have hc0 := HX2.out.c0
  have hc1 := HX2.out.c1
  have hcc := (HB2.out.cell (p := ⟨b, off + J, none⟩) hb).trans HC.out
  have HCa := Lib.hid (HPt.out w2 HX2.out HB2.out)
  go_wp2_with fail
  refine (HCa.out).mono ?_
  rintro e w9 ⟨⟨A9, n9, c9, R9, rfl, hn9, ho9⟩, hb9⟩
  have HZ9 := Lib.hid (HZ2.out.step (lo := w2.heap.size) (by omega) hb9)
  have HB9 := Lib.hid (HB2.out.trans (hb9.mono HB2.out.size))
  have HO9 := Lib.hid (show OwnM w9 (w.heap.size + 1 + 1) A9 c9 R9 (rX) from ho9.lower (by omega))
  have HN9 := Lib.hid hn9
  clear hb9 ho9 hn9
  generalize rX = lst at *
  generalize rP = ptz at *
  generalize rC = cdz at *
  have rz := HZ9.out
  have z0 := rz.c0
  have z1 := rz.c1
  have y0 := rz.f0
  have y1 := rz.f1
  clear rz
  go_wp2
  obtain ⟨r0, r1⟩ := HZ9.out.read (.int .i64 ptz) (.slice A9 n9 c9)
  refine bodyPost_ret (v := .tuple #[.agg #[.int .i64 ptz, .slice A9 n9 c9], .int .i64 cdz]) (by simp [results, Try.results19, go_sem, r0, r1]) rfl ⟨⟨A9, n9, c9, R9, rfl, HN9.out, own_set2 HO9.out (by omega) _ _⟩, below_set2 HB9.out (by omega)⟩

set_option maxRecDepth 100000 in
set_option maxHeartbeats 8000000 in
theorem implDerivedDesign_c (w : World) (p : Int) (hp : -9223372036854775808 ≤ p ∧ p ≤ 9223372036854775807) (A : Option Addr) (n c : Nat) (R : Spine) (xss : List (List Int)) (hr : RdM w A c R xss) (hn : xss.length = n) (hw : WfM xss) (hz : (n : Int) + (tot xss : Nat) ≤ 1048576) (j : Int) (hj64 : -9223372036854775808 ≤ j ∧ j ≤ 9223372036854775807) :
    Calls Try.prog 20 #[.agg #[.int .i64 p, .slice A n c], .int .i64 j] w (PostDC w (drP p xss j) (drX p xss j) (drC p xss j)) := by
  clear hw hz
  have hzD := zeroD
  obtain ⟨wa, hwa⟩ : ∃ wa, wa = (w.alloc (.cells #[.int .i64 p, .slice A n c] 26)).alloc (.cells #[.int .i64 0, .slice none 0 0] 26) := ⟨_, rfl⟩
  have hXa : BoxD wa w.heap.size p A n c := by rw [hwa]; exact (BoxD.made _ _ _ _ _ _).below (below_boxed _ _)
  have hZa : RBox wa (w.heap.size + 1) := by
    rw [hwa]
    have := RBox.made (w.alloc (.cells #[.int .i64 p, .slice A n c] 26)) 26
    simpa using this
  have hBa : Below w.heap.size w wa := by rw [hwa]; exact (below_boxed _ _).alloc (by simp) _
  have hsa : w.heap.size + 2 ≤ wa.heap.size := by rw [hwa]; simp
  have HXa := Lib.hid hXa
  have HZa := Lib.hid hZa
  have HBa := Lib.hid hBa
  have hO := hasBlock_c wa p j A n c R xss (hr.below hBa) hn
  rw [hwa] at hO
  by_cases h0 : hbC p xss j = 0
  rotate_left
  · rw [show drP p xss j = 0 by unfold drP atP; rw [if_neg h0], show drX p xss j = [] by unfold drX atX; rw [if_neg h0], show drC p xss j = hbC p xss j by unfold drC atC; rw [if_neg h0]]
    have HO := Lib.hid hO
    have HWa := Lib.hid hwa
    generalize hbC p xss j = code at *
    have hcd : (code == 0) = false := by simp [h0]
    clear hO hwa hXa hZa hBa hr hn hp
    go_enter Try.func20, Try.ntmps20
    go_wp2_with fail
    refine (HO.out).mono ?_
    rintro e w2 ⟨rfl, hb2⟩
    rw [← HWa.out] at hb2
    have HZ2 := Lib.hid (HZa.out.step (lo := wa.heap.size) (by omega) hb2)
    have HB2 := Lib.hid (HBa.out.trans (hb2.mono HBa.out.size))
    clear hb2
    have rz := HZ2.out
    have z0 := rz.c0
    have z1 := rz.c1
    have y0 := rz.f0
    have y1 := rz.f1
    clear rz
    go_wp2
    obtain ⟨r0, r1⟩ := HZ2.out.read (.int .i64 0) (.slice none 0 0)
    refine bodyPost_ret (v := .tuple #[.agg #[.int .i64 0, .slice none 0 0], .int .i64 code]) (by simp [results, Try.results20, go_sem, r0, r1]) rfl ⟨⟨none, 0, 0, fun _ => (none, 0), rfl, rfl, OwnM.nil_ _ _ _⟩, below_set2 HB2.out (by omega)⟩
  obtain ⟨hd, hj0, hjn⟩ := hbC_zero h0
  obtain ⟨J, rfl⟩ : ∃ J : Nat, j = (J : Int) := ⟨j.toNat, by omega⟩
  have hJx : J < xss.length := by omega
  have hJ1 : (0 : Int) ≤ (J : Int) := by omega
  have hJ2 : (J : Int) < (n : Int) := by omega
  have hD := dsgB_true.1 hd
  obtain ⟨P, rfl⟩ : ∃ P : Nat, p = (P : Int) := ⟨p.toNat, by have := hD.1.1; omega⟩
  have hP : P ≤ 32 := by have := hD.1.2; omega
  have hn128 : n ≤ 128 := by have := hD.2.1; omega
  have hset : ∀ k, k < xss.length → setB (row xss k) 32 = true := fun k hk => setB_more (blockB_set (hD.2.2 k hk).1) (by omega) (by omega)
  obtain ⟨b, off, eA, hb, hc⟩ := hr.at_ J hJx
  subst eA
  have hbl : b < w.heap.size := hb
  have HRe := Lib.hid (fun (W : World) (hb : Below w.heap.size w W) => restricted_c W (P : Int) (J : Int) (some ⟨b, off, none⟩) (R J).1 n c (row xss J).length (R J).2 R xss (row xss J) (hr.below hb) hn hn128 ((hr.below hb).rows J hJx) rfl hset (hset J hJx))
  rw [show drP (P : Int) xss (J : Int) = ptP xss (J : Int) (row xss J) from if_pos h0, show drX (P : Int) xss (J : Int) = ptX xss (J : Int) (row xss J) from if_pos h0, show drC (P : Int) xss (J : Int) = ptC xss (J : Int) (row xss J) from if_pos h0]
  rw [h0] at hO
  have HO := Lib.hid hO
  have HWa := Lib.hid hwa
  have HC := Lib.hid hc
  generalize ptP xss (J : Int) (row xss J) = rP at *
  generalize ptX xss (J : Int) (row xss J) = rX at *
  generalize ptC xss (J : Int) (row xss J) = rC at *
  clear hO hwa hXa hZa hBa hd hr hn hp hD hset h0 hc
  go_enter Try.func20, Try.ntmps20
  go_wp2_with fail
  refine (HO.out).mono ?_
  rintro e w2 ⟨rfl, hb2⟩
  rw [← HWa.out] at hb2
  have HX2 := Lib.hid (HXa.out.below hb2)
  have HZ2 := Lib.hid (HZa.out.step (lo := wa.heap.size) (by omega) hb2)
  have HB2 := Lib.hid (HBa.out.trans (hb2.mono HBa.out.size))
  have hs2 : w.heap.size + 2 ≤ w2.heap.size := by have := hb2.size; omega
  have hc0 := HX2.out.c0
  have hc1 := HX2.out.c1
  have hcc := (HB2.out.cell (p := ⟨b, off + J, none⟩) hb).trans HC.out
  have HB2d := Lib.hid (show Below w.heap.size w w2.drew from HB2.out.drew)
  have HZ2d := Lib.hid (show RBox w2.drew (w.heap.size + 1) from HZ2.out.drewN 1)
  have hs2d : w2.drew.heap.size = w2.heap.size := rfl
  have hxl : w.heap.size < w2.drew.heap.size := by omega
  have hbl9 : b < w2.drew.heap.size := by omega
  have hx9 : w.heap.size < w.heap.size + 1 := by omega
  have hb9l : b < w.heap.size + 1 := by omega
  clear hb2
  go_wp2
  go_region_held3 (fun w' => w'.cell? ⟨w.heap.size, 0, none⟩ = some (.int .i64 (P : Int)) ∧ w'.cell? ⟨w.heap.size, 1, none⟩ = some (.slice (some ⟨b, off, none⟩) n c) ∧ w'.cell? ⟨b, off + J, none⟩ = some (.slice (R J).1 (row xss J).length (R J).2)) (first | exact ⟨hc0, hc1, hcc⟩ | exact ⟨(hb9.cell hxl).trans hc0, (hb9.cell hxl).trans hc1, (hb9.cell hbl9).trans hcc⟩ | exact ⟨((hs9 _ _).cell hx9).trans ((hb9.cell hxl).trans hc0), ((hs9 _ _).cell hx9).trans ((hb9.cell hxl).trans hc1), ((hs9 _ _).cell hb9l).trans ((hb9.cell hbl9).trans hcc)⟩)
    (first | (go_at_call 56; refine (HRe.out _ HB2d.out).mono ?_; rintro e w9 ⟨⟨A9, n9, c9, R9, rfl, hn9, ho9⟩, hb9⟩; have HZ9 := Lib.hid (HZ2d.out.step (lo := w2.drew.heap.size) (by omega) hb9); have HB9 := Lib.hid (HB2d.out.trans (hb9.mono HB2d.out.size)); have z0 := HZ9.out.c0; have z1 := HZ9.out.c1; have y0 := HZ9.out.f0; have y1 := HZ9.out.f1; have hs9 := fun u0 u1 => below_set2 (u0 := u0) (u1 := u1) (Below.refl (w.heap.size + 1) w9) (Nat.le_refl (w.heap.size + 1))))
  have HO10 := Lib.hid (show OwnM w9 (w.heap.size + 1 + 1) A9 c9 R9 rX from ho9.lower (by omega))
  have HN9 := Lib.hid hn9
  clear ho9 hn9
  go_wp2
  obtain ⟨r0, r1⟩ := HZ9.out.read (.int .i64 rP) (.slice A9 n9 c9)
  refine bodyPost_ret (v := .tuple #[.agg #[.int .i64 rP, .slice A9 n9 c9], .int .i64 rC]) (by simp [results, Try.results20, go_sem, r0, r1]) rfl ⟨⟨A9, n9, c9, R9, rfl, HN9.out, own_set2 HO10.out (by omega) _ _⟩, below_set2 HB9.out (by omega)⟩
end Go.Proofs.Ytdneldecedbepaa
