/-
  ResidualDesign of both sides. Conditions: those of each theorem.
-/
import Derived.Test.YtdneldecedbepaaPart3
namespace Go.Proofs.Ytdneldecedbepaa
open Go.RowKit
set_option linter.unusedVariables false
set_option linter.unusedSimpArgs false

theorem keep3 {lo : Nat} {w w' : World} {B b o : Nat} {v0 v1 v2 : Option Value} (hb : Below lo w w') (h1 : B < lo) (h2 : b < lo) (h : w.cell? ⟨B, 0, none⟩ = v0 ∧ w.cell? ⟨B, 1, none⟩ = v1 ∧ w.cell? ⟨b, o, none⟩ = v2) :
    w'.cell? ⟨B, 0, none⟩ = v0 ∧ w'.cell? ⟨B, 1, none⟩ = v1 ∧ w'.cell? ⟨b, o, none⟩ = v2 :=
  ⟨(hb.cell (p := ⟨B, 0, none⟩) h1).trans h.1, (hb.cell (p := ⟨B, 1, none⟩) h1).trans h.2.1, (hb.cell (p := ⟨b, o, none⟩) h2).trans h.2.2⟩

set_option maxRecDepth 100000 in
set_option maxHeartbeats 8000000 in
theorem specResidualDesign_c (w : World) (p : Int) (hp : -9223372036854775808 ≤ p ∧ p ≤ 9223372036854775807) (A : Option Addr) (n c : Nat) (R : Spine) (xss : List (List Int)) (hr : RdM w A c R xss) (hn : xss.length = n) (hw : WfM xss) (hz : (n : Int) + (tot xss : Nat) ≤ 1048576) (j : Int) (hj64 : -9223372036854775808 ≤ j ∧ j ≤ 9223372036854775807) :
    Calls Try.prog 21 #[.agg #[.int .i64 p, .slice A n c], .int .i64 j] w (PostDC w (rdP p xss j) (rdX p xss j) (rdC p xss j)) := by
  clear hw hz
  have hzD := zeroD
  obtain ⟨wa, hwa⟩ : ∃ wa, wa = (w.alloc (.cells #[.int .i64 p, .slice A n c] 26)).alloc (.cells #[.int .i64 0, .slice none 0 0] 26) := ⟨_, rfl⟩
  have hXa : BoxD wa w.heap.size p A n c := by rw [hwa]; exact (BoxD.made _ _ _ _ _ _).below (below_boxed _ _)
  have hZa : RBox wa (w.heap.size + 1) := by
    rw [hwa]
    have := RBox.made (w.alloc (.cells #[.int .i64 p, .slice A n c] 26)) 26
    simpa using this
  have hBa : Below w.heap.size w wa := by rw [hwa]; exact (below_boxed _ _).alloc (by simp) _
  have hsa : w.heap.size + 2 ≤ wa.heap.size := by rw [hwa]; simp
  have HXa := Lib.hid hXa
  have HZa := Lib.hid hZa
  have HBa := Lib.hid hBa
  have hO := l10Ask_c wa w.heap.size p j A n c R xss hXa (hr.below hBa) hn
  rw [hwa] at hO
  by_cases h0 : hbC p xss j = 0
  rotate_left
  · rw [show rdP p xss j = 0 by unfold rdP atP; rw [if_neg h0], show rdX p xss j = [] by unfold rdX atX; rw [if_neg h0], show rdC p xss j = hbC p xss j by unfold rdC atC; rw [if_neg h0]]
    have HO := Lib.hid hO
    have HWa := Lib.hid hwa
    generalize hbC p xss j = code at *
    have hcd : (code == 0) = false := by simp [h0]
    clear hO hwa hXa hZa hBa hr hn hp
    go_enter Try.func21, Try.ntmps21
    go_wp2_with fail
    refine (HO.out).mono ?_
    rintro e w' ⟨rfl, q, rfl⟩
    rw [← HWa.out]
    have HZ2 := Lib.hid (HZa.out.drewN q)
    have HB2 := Lib.hid (below_drewN HBa.out q)
    generalize wa.drewN q = w2 at *
    have rz := HZ2.out
    have z0 := rz.c0
    have z1 := rz.c1
    have y0 := rz.f0
    have y1 := rz.f1
    clear rz
    go_wp2
    obtain ⟨r0, r1⟩ := HZ2.out.read (.int .i64 0) (.slice none 0 0)
    refine bodyPost_ret (v := .tuple #[.agg #[.int .i64 0, .slice none 0 0], .int .i64 code]) (by simp [results, Try.results21, go_sem, r0, r1]) rfl ⟨⟨none, 0, 0, fun _ => (none, 0), rfl, rfl, OwnM.nil_ _ _ _⟩, below_set2 HB2.out (by omega)⟩
  obtain ⟨hd, hj0, hjn⟩ := hbC_zero h0
  obtain ⟨J, rfl⟩ : ∃ J : Nat, j = (J : Int) := ⟨j.toNat, by omega⟩
  have hJx : J < xss.length := by omega
  have hJ1 : (0 : Int) ≤ (J : Int) := by omega
  have hJ2 : (J : Int) < (n : Int) := by omega
  have hD := dsgB_true.1 hd
  obtain ⟨P, rfl⟩ : ∃ P : Nat, p = (P : Int) := ⟨p.toNat, by have := hD.1.1; omega⟩
  have hP : P ≤ 32 := by have := hD.1.2; omega
  have hn128 : n ≤ 128 := by have := hD.2.1; omega
  have hset : ∀ k, k < xss.length → setB (row xss k) 32 = true := fun k hk => setB_more (blockB_set (hD.2.2 k hk).1) (by omega) (by omega)
  obtain ⟨b, off, eA, hb, hc⟩ := hr.at_ J hJx
  subst eA
  have hbl : b < w.heap.size := hb
  have hb32 := blockB_set (hD.2.2 J hJx).1
  have HAll := Lib.hid (fun (W : World) => l10All_c W P (by omega))
  have HMi := Lib.hid (fun (W : World) (hW : Below w.heap.size w W) (A4 : Option Addr) (n4 c4 : Nat) (h4 : RdI W A4 c4 (idL P)) (hn4 : (idL P).length = n4) => specMinusSets_c W A4 (R J).1 n4 (row xss J).length c4 (R J).2 (idL P) (row xss J) h4 hn4 ((hr.below hW).rows J hJx) rfl (idL_set hP) (setB_more hb32 (by omega) (by omega)))
  have HPt := Lib.hid (fun (W : World) (hX : BoxD W w.heap.size (P : Int) (some ⟨b, off, none⟩) n c) (hb : Below w.heap.size w W) (A6 : Option Addr) (n6 c6 : Nat) (h6 : RdI W A6 c6 (cmpR P (row xss J))) (hn6 : (cmpR P (row xss J)).length = n6) => l10Part_c W w.heap.size (P : Int) (J : Int) (some ⟨b, off, none⟩) A6 n c n6 c6 R xss (cmpR P (row xss J)) hX (hr.below hb) hn hn128 h6 hn6 hset (setB_more (cmpR_set hP hb32) (by omega) (by omega)))
  rw [show rdP (P : Int) xss (J : Int) = ptP xss (J : Int) (cmpR P (row xss J)) from if_pos h0, show rdX (P : Int) xss (J : Int) = ptX xss (J : Int) (cmpR P (row xss J)) from if_pos h0, show rdC (P : Int) xss (J : Int) = ptC xss (J : Int) (cmpR P (row xss J)) from if_pos h0]
  rw [h0] at hO
  have HO := Lib.hid hO
  have HWa := Lib.hid hwa
  have HC := Lib.hid hc
  generalize ptP xss (J : Int) (cmpR P (row xss J)) = rP at *
  generalize ptX xss (J : Int) (cmpR P (row xss J)) = rX at *
  generalize ptC xss (J : Int) (cmpR P (row xss J)) = rC at *
  clear hO hwa hXa hZa hBa hd hr hn hp hD hset h0 hc hb32
  go_enter Try.func21, Try.ntmps21
  go_wp2_with fail
  refine (HO.out).mono ?_
  rintro e w' ⟨rfl, q, rfl⟩
  rw [← HWa.out]
  have HX2 := Lib.hid (HXa.out.drewN q)
  have HZ2 := Lib.hid (HZa.out.drewN q)
  have HB2 := Lib.hid (below_drewN HBa.out q)
  have hs2 : w.heap.size + 2 ≤ (wa.drewN q).heap.size := hsa
  generalize wa.drewN q = w2 at *
  have hc0 := HX2.out.c0
  have hc1 := HX2.out.c1
  have hcc := (HB2.out.cell (p := ⟨b, off + J, none⟩) hb).trans HC.out
  have HX2d := Lib.hid (HX2.out.drewN 1)
  have HB2d := Lib.hid (show Below w.heap.size w w2.drew from HB2.out.drew)
  have HZ2d := Lib.hid (show RBox w2.drew (w.heap.size + 1) from HZ2.out.drewN 1)
  have hs2d : w2.drew.heap.size = w2.heap.size := rfl
  have hx1 : w.heap.size + 1 < w2.drew.heap.size := by omega
  have hxl : w.heap.size < w2.drew.heap.size := by omega
  have hbl9 : b < w2.drew.heap.size := by omega
  have hx9 : w.heap.size < w.heap.size + 1 := by omega
  have hb9l : b < w.heap.size + 1 := by omega
  go_wp2
  go_region_held3 (fun w' => w'.cell? ⟨w.heap.size, 0, none⟩ = some (.int .i64 (P : Int)) ∧ w'.cell? ⟨w.heap.size, 1, none⟩ = some (.slice (some ⟨b, off, none⟩) n c) ∧ w'.cell? ⟨b, off + J, none⟩ = some (.slice (R J).1 (row xss J).length (R J).2)) (first | exact ⟨hc0, hc1, hcc⟩ | exact hS4 | exact hS6 | exact hS9 | exact hSs _ _)
    (first | (go_at_call 45; refine (HAll.out _).mono ?_; rintro e w4 ⟨⟨A4, n4, c4, rfl, hn4, ho4⟩, hb4⟩; have hB4 := HB2d.out.trans (hb4.mono HB2d.out.size); have hS4 := keep3 hb4 hxl hbl9 ⟨hc0, hc1, hcc⟩) | (go_at_call 44; refine (HMi.out w4 hB4 A4 n4 c4 ho4.rd hn4).mono ?_; rintro e w6 ⟨⟨A6, n6, c6, rfl, hn6, ho6⟩, hb6⟩; have hB6 := hB4.trans (hb6.mono hB4.size); have hb26 := hb4.trans (hb6.mono hb4.size); have hS6 := keep3 hb26 hxl hbl9 ⟨hc0, hc1, hcc⟩) | (go_at_call 54; refine (HPt.out w6 (HX2d.out.step hxl hb26) hB6 A6 n6 c6 ho6.rd hn6).mono ?_; rintro e w9 ⟨⟨A9, n9, c9, R9, rfl, hn9, ho9⟩, hb9⟩; have hb29 := hb26.trans (hb9.mono hb26.size); have hS9 := keep3 hb29 hxl hbl9 ⟨hc0, hc1, hcc⟩; have hSs := fun u0 u1 => keep3 (below_set2 (u0 := u0) (u1 := u1) (Below.refl (w.heap.size + 1) w9) (Nat.le_refl (w.heap.size + 1))) hx9 hb9l hS9; have HZ9 := Lib.hid (HZ2d.out.step hx1 hb29); have HB9 := Lib.hid (HB2d.out.trans (hb29.mono HB2d.out.size)); have z0 := HZ9.out.c0; have z1 := HZ9.out.c1; have y0 := HZ9.out.f0; have y1 := HZ9.out.f1; have hs9 := hb26.size; have hs9b := hB6.size))
  have ho9 := ho9.lower (lo' := w.heap.size + 1 + 1) (by omega)
  have HO10 := Lib.hid (show OwnM w9 (w.heap.size + 1 + 1) A9 c9 R9 rX from ho9.lower (by omega))
  have HN9 := Lib.hid hn9
  clear ho9 hn9
  go_wp2
  obtain ⟨r0, r1⟩ := HZ9.out.read (.int .i64 rP) (.slice A9 n9 c9)
  refine bodyPost_ret (v := .tuple #[.agg #[.int .i64 rP, .slice A9 n9 c9], .int .i64 rC]) (by simp [results, Try.results21, go_sem, r0, r1]) rfl ⟨⟨A9, n9, c9, R9, rfl, HN9.out, own_set2 HO10.out (by omega) _ _⟩, below_set2 HB9.out (by omega)⟩

set_option maxRecDepth 100000 in
set_option maxHeartbeats 8000000 in
theorem implResidualDesign_c (w : World) (p : Int) (hp : -9223372036854775808 ≤ p ∧ p ≤ 9223372036854775807) (A : Option Addr) (n c : Nat) (R : Spine) (xss : List (List Int)) (hr : RdM w A c R xss) (hn : xss.length = n) (hw : WfM xss) (hz : (n : Int) + (tot xss : Nat) ≤ 1048576) (j : Int) (hj64 : -9223372036854775808 ≤ j ∧ j ≤ 9223372036854775807) :
    Calls Try.prog 22 #[.agg #[.int .i64 p, .slice A n c], .int .i64 j] w (PostDC w (rdP p xss j) (rdX p xss j) (rdC p xss j)) := by
  clear hw hz
  have hzD := zeroD
  obtain ⟨wa, hwa⟩ : ∃ wa, wa = (w.alloc (.cells #[.int .i64 p, .slice A n c] 26)).alloc (.cells #[.int .i64 0, .slice none 0 0] 26) := ⟨_, rfl⟩
  have hXa : BoxD wa w.heap.size p A n c := by rw [hwa]; exact (BoxD.made _ _ _ _ _ _).below (below_boxed _ _)
  have hZa : RBox wa (w.heap.size + 1) := by
    rw [hwa]
    have := RBox.made (w.alloc (.cells #[.int .i64 p, .slice A n c] 26)) 26
    simpa using this
  have hBa : Below w.heap.size w wa := by rw [hwa]; exact (below_boxed _ _).alloc (by simp) _
  have hsa : w.heap.size + 2 ≤ wa.heap.size := by rw [hwa]; simp
  have HXa := Lib.hid hXa
  have HZa := Lib.hid hZa
  have HBa := Lib.hid hBa
  have hO := hasBlock_c wa p j A n c R xss (hr.below hBa) hn
  rw [hwa] at hO
  by_cases h0 : hbC p xss j = 0
  rotate_left
  · rw [show rdP p xss j = 0 by unfold rdP atP; rw [if_neg h0], show rdX p xss j = [] by unfold rdX atX; rw [if_neg h0], show rdC p xss j = hbC p xss j by unfold rdC atC; rw [if_neg h0]]
    have HO := Lib.hid hO
    have HWa := Lib.hid hwa
    generalize hbC p xss j = code at *
    have hcd : (code == 0) = false := by simp [h0]
    clear hO hwa hXa hZa hBa hr hn hp
    go_enter Try.func22, Try.ntmps22
    go_wp2_with fail
    refine (HO.out).mono ?_
    rintro e w2 ⟨rfl, hb2⟩
    rw [← HWa.out] at hb2
    have HZ2 := Lib.hid (HZa.out.step (lo := wa.heap.size) (by omega) hb2)
    have HB2 := Lib.hid (HBa.out.trans (hb2.mono HBa.out.size))
    clear hb2
    have rz := HZ2.out
    have z0 := rz.c0
    have z1 := rz.c1
    have y0 := rz.f0
    have y1 := rz.f1
    clear rz
    go_wp2
    obtain ⟨r0, r1⟩ := HZ2.out.read (.int .i64 0) (.slice none 0 0)
    refine bodyPost_ret (v := .tuple #[.agg #[.int .i64 0, .slice none 0 0], .int .i64 code]) (by simp [results, Try.results22, go_sem, r0, r1]) rfl ⟨⟨none, 0, 0, fun _ => (none, 0), rfl, rfl, OwnM.nil_ _ _ _⟩, below_set2 HB2.out (by omega)⟩
  obtain ⟨hd, hj0, hjn⟩ := hbC_zero h0
  obtain ⟨J, rfl⟩ : ∃ J : Nat, j = (J : Int) := ⟨j.toNat, by omega⟩
  have hJx : J < xss.length := by omega
  have hJ1 : (0 : Int) ≤ (J : Int) := by omega
  have hJ2 : (J : Int) < (n : Int) := by omega
  have hD := dsgB_true.1 hd
  obtain ⟨P, rfl⟩ : ∃ P : Nat, p = (P : Int) := ⟨p.toNat, by have := hD.1.1; omega⟩
  have hP : P ≤ 32 := by have := hD.1.2; omega
  have hn128 : n ≤ 128 := by have := hD.2.1; omega
  have hset : ∀ k, k < xss.length → setB (row xss k) 32 = true := fun k hk => setB_more (blockB_set (hD.2.2 k hk).1) (by omega) (by omega)
  obtain ⟨b, off, eA, hb, hc⟩ := hr.at_ J hJx
  subst eA
  have hbl : b < w.heap.size := hb
  have hb32 := blockB_set (hD.2.2 J hJx).1
  have HAll := Lib.hid (fun (W : World) => allPoints_c W P (by omega))
  have HMi := Lib.hid (fun (W : World) (hW : Below w.heap.size w W) (A4 : Option Addr) (n4 c4 : Nat) (h4 : RdI W A4 c4 (idL P)) (hn4 : (idL P).length = n4) => MinusSets_c W A4 (R J).1 n4 (row xss J).length c4 (R J).2 (idL P) (row xss J) h4 hn4 ((hr.below hW).rows J hJx) rfl)
  have HRe := Lib.hid (fun (W : World) (hb : Below w.heap.size w W) (A6 : Option Addr) (n6 c6 : Nat) (h6 : RdI W A6 c6 (cmpR P (row xss J))) (hn6 : (cmpR P (row xss J)).length = n6) => restricted_c W (P : Int) (J : Int) (some ⟨b, off, none⟩) A6 n c n6 c6 R xss (cmpR P (row xss J)) (hr.below hb) hn hn128 h6 hn6 hset (setB_more (cmpR_set hP hb32) (by omega) (by omega)))
  rw [show rdP (P : Int) xss (J : Int) = ptP xss (J : Int) (cmpR P (row xss J)) from if_pos h0, show rdX (P : Int) xss (J : Int) = ptX xss (J : Int) (cmpR P (row xss J)) from if_pos h0, show rdC (P : Int) xss (J : Int) = ptC xss (J : Int) (cmpR P (row xss J)) from if_pos h0]
  rw [h0] at hO
  have HO := Lib.hid hO
  have HWa := Lib.hid hwa
  have HC := Lib.hid hc
  generalize ptP xss (J : Int) (cmpR P (row xss J)) = rP at *
  generalize ptX xss (J : Int) (cmpR P (row xss J)) = rX at *
  generalize ptC xss (J : Int) (cmpR P (row xss J)) = rC at *
  clear hO hwa hXa hZa hBa hd hr hn hp hD hset h0 hc hb32
  go_enter Try.func22, Try.ntmps22
  go_wp2_with fail
  refine (HO.out).mono ?_
  rintro e w2 ⟨rfl, hb2⟩
  rw [← HWa.out] at hb2
  have HX2 := Lib.hid (HXa.out.below hb2)
  have HZ2 := Lib.hid (HZa.out.step (lo := wa.heap.size) (by omega) hb2)
  have HB2 := Lib.hid (HBa.out.trans (hb2.mono HBa.out.size))
  have hs2 : w.heap.size + 2 ≤ w2.heap.size := by have := hb2.size; omega
  clear hb2
  have hc0 := HX2.out.c0
  have hc1 := HX2.out.c1
  have hcc := (HB2.out.cell (p := ⟨b, off + J, none⟩) hb).trans HC.out
  have HX2d := Lib.hid (HX2.out.drewN 1)
  have HB2d := Lib.hid (show Below w.heap.size w w2.drew from HB2.out.drew)
  have HZ2d := Lib.hid (show RBox w2.drew (w.heap.size + 1) from HZ2.out.drewN 1)
  have hs2d : w2.drew.heap.size = w2.heap.size := rfl
  have hx1 : w.heap.size + 1 < w2.drew.heap.size := by omega
  have hxl : w.heap.size < w2.drew.heap.size := by omega
  have hbl9 : b < w2.drew.heap.size := by omega
  have hx9 : w.heap.size < w.heap.size + 1 := by omega
  have hb9l : b < w.heap.size + 1 := by omega
  go_wp2
  go_region_held3 (fun w' => w'.cell? ⟨w.heap.size, 0, none⟩ = some (.int .i64 (P : Int)) ∧ w'.cell? ⟨w.heap.size, 1, none⟩ = some (.slice (some ⟨b, off, none⟩) n c) ∧ w'.cell? ⟨b, off + J, none⟩ = some (.slice (R J).1 (row xss J).length (R J).2)) (first | exact ⟨hc0, hc1, hcc⟩ | exact hS4 | exact hS6 | exact hS9 | exact hSs _ _)
    (first | (go_at_call 50; refine (HAll.out _).mono ?_; rintro e w4 ⟨⟨A4, n4, c4, rfl, hn4, ho4⟩, hb4⟩; have hB4 := HB2d.out.trans (hb4.mono HB2d.out.size); have hS4 := keep3 hb4 hxl hbl9 ⟨hc0, hc1, hcc⟩) | (go_at_call 49; refine (HMi.out w4 hB4 A4 n4 c4 ho4.rd hn4).mono ?_; rintro e w6 ⟨⟨A6, n6, c6, rfl, hn6, ho6⟩, hb6⟩; have hB6 := hB4.trans (hb6.mono hB4.size); have hb26 := hb4.trans (hb6.mono hb4.size); have hS6 := keep3 hb26 hxl hbl9 ⟨hc0, hc1, hcc⟩) | (go_at_call 56; refine (HRe.out w6 hB6 A6 n6 c6 ho6.rd hn6).mono ?_; rintro e w9 ⟨⟨A9, n9, c9, R9, rfl, hn9, ho9⟩, hb9⟩; have hb29 := hb26.trans (hb9.mono hb26.size); have hS9 := keep3 hb29 hxl hbl9 ⟨hc0, hc1, hcc⟩; have hSs := fun u0 u1 => keep3 (below_set2 (u0 := u0) (u1 := u1) (Below.refl (w.heap.size + 1) w9) (Nat.le_refl (w.heap.size + 1))) hx9 hb9l hS9; have HZ9 := Lib.hid (HZ2d.out.step hx1 hb29); have HB9 := Lib.hid (HB2d.out.trans (hb29.mono HB2d.out.size)); have z0 := HZ9.out.c0; have z1 := HZ9.out.c1; have y0 := HZ9.out.f0; have y1 := HZ9.out.f1; have hs9 := hb26.size; have hs9b := hB6.size))
  have ho9 := ho9.lower (lo' := w.heap.size + 1 + 1) (by omega)
  have HO10 := Lib.hid (show OwnM w9 (w.heap.size + 1 + 1) A9 c9 R9 rX from ho9.lower (by omega))
  have HN9 := Lib.hid hn9
  clear ho9 hn9
  go_wp2
  obtain ⟨r0, r1⟩ := HZ9.out.read (.int .i64 rP) (.slice A9 n9 c9)
  refine bodyPost_ret (v := .tuple #[.agg #[.int .i64 rP, .slice A9 n9 c9], .int .i64 rC]) (by simp [results, Try.results22, go_sem, r0, r1]) rfl ⟨⟨A9, n9, c9, R9, rfl, HN9.out, own_set2 HO10.out (by omega) _ _⟩, below_set2 HB9.out (by omega)⟩
end Go.Proofs.Ytdneldecedbepaa
