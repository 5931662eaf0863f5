/-
  ComplementDesign of both sides. Conditions: those of each theorem.
-/
import Derived.Test.YtdneldecedbepaaCompP
namespace Go.Proofs.Ytdneldecedbepaa
open Go.RowKit
set_option linter.unusedVariables false
set_option linter.unusedSimpArgs false

set_option maxRecDepth 100000 in
set_option maxHeartbeats 8000000 in
theorem specComplementDesign_c (w : World) (p : Int) (hp : -9223372036854775808 ≤ p ∧ p ≤ 9223372036854775807) (A : Option Addr) (n c : Nat) (R : Spine) (xss : List (List Int)) (hr : RdM w A c R xss) (hn : xss.length = n) (hw : WfM xss) (hz : (n : Int) + (tot xss : Nat) ≤ 1048576) :
    Calls Try.prog 13 #[.agg #[.int .i64 p, .slice A n c]] w (PostDC w (cdP p xss) (cdX p xss) (cdC p xss)) := by
  clear hw hz
  have hzD := zeroD
  obtain ⟨wa, hwa⟩ : ∃ wa, wa = (w.alloc (.cells #[.int .i64 p, .slice A n c] 26)).alloc (.cells #[.int .i64 0, .slice none 0 0] 26) := ⟨_, rfl⟩
  have hXa : BoxD wa w.heap.size p A n c := by rw [hwa]; exact (BoxD.made _ _ _ _ _ _).below (below_boxed _ _)
  have hZa : RBox wa (w.heap.size + 1) := by
    rw [hwa]
    have := RBox.made (w.alloc (.cells #[.int .i64 p, .slice A n c] 26)) 26
    simpa using this
  have hBa : Below w.heap.size w wa := by rw [hwa]; exact (below_boxed _ _).alloc (by simp) _
  have hsa : w.heap.size + 2 ≤ wa.heap.size := by rw [hwa]; simp
  have HXa := Lib.hid hXa
  have HZa := Lib.hid hZa
  have HBa := Lib.hid hBa
  have hO := l10Ok_c wa w.heap.size A n c R xss p hXa (hr.below hBa) hn
  rcases hd : dsgB p xss with _ | _
  · rw [hd] at hO
    rw [show cdP p xss = 0 by unfold cdP; rw [hd]; rfl, show cdX p xss = [] by unfold cdX; rw [hd]; rfl, show cdC p xss = 1 by unfold cdC; rw [hd]; rfl]
    rw [hwa] at hO
    have HO := Lib.hid hO
    have HWa := Lib.hid hwa
    clear hO hwa hXa hZa hBa hd hr hn hp
    go_enter Try.func13, Try.ntmps13
    go_wp2_with fail
    refine (HO.out).mono ?_
    rintro e w' ⟨rfl, q, rfl⟩
    rw [← HWa.out]
    have HZ2 := Lib.hid (HZa.out.drewN q)
    have HB2 := Lib.hid (below_drewN HBa.out q)
    generalize wa.drewN q = w2 at *
    have rz := HZ2.out
    have z0 := rz.c0
    have z1 := rz.c1
    have y0 := rz.f0
    have y1 := rz.f1
    clear rz
    go_wp2
    obtain ⟨r0, r1⟩ := HZ2.out.read (.int .i64 0) (.slice none 0 0)
    refine bodyPost_ret (v := .tuple #[.agg #[.int .i64 0, .slice none 0 0], .int .i64 1]) (by simp [results, Try.results13, go_sem, r0, r1]) rfl ⟨⟨none, 0, 0, fun _ => (none, 0), rfl, rfl, OwnM.nil_ _ _ _⟩, below_set2 HB2.out (by omega)⟩
  rw [hd] at hO
  have hD := dsgB_true.1 hd
  obtain ⟨P, rfl⟩ : ∃ P : Nat, p = (P : Int) := ⟨p.toNat, by have := hD.1.1; omega⟩
  have hP : P ≤ 32 := by have := hD.1.2; omega
  have hn128 : n ≤ 128 := by have := hD.2.1; omega
  obtain ⟨full, hfull⟩ : ∃ full : Prop, full = cdFull P xss := ⟨_, rfl⟩
  have HFull := Lib.hid (show full ↔ ∃ k, k < xss.length ∧ (row xss k).length = P from by rw [hfull]; exact Iff.rfl)
  have HRes : (full → cdP (P : Int) xss = 0 ∧ cdX (P : Int) xss = [] ∧ cdC (P : Int) xss = 6) ∧ (¬ full → cdP (P : Int) xss = mkP (P : Int) (cdR P xss) ∧ cdX (P : Int) xss = mkL (cdR P xss) ∧ cdC (P : Int) xss = mkC (cdR P xss)) := by
    rw [hfull]
    refine ⟨fun h => ?_, fun h => ?_⟩
    · unfold cdP cdX cdC; rw [if_pos hd, if_pos hd, if_pos hd]; exact ⟨if_pos h, if_pos h, if_pos h⟩
    · unfold cdP cdX cdC; rw [if_pos hd, if_pos hd, if_pos hd]; exact ⟨if_neg h, if_neg h, if_neg h⟩
  have HRes := Lib.hid HRes
  have HSet := Lib.hid (fun k (hk : k < xss.length) => (show setB (row xss k) (P : Int) = true from blockB_set (hD.2.2 k hk).1))
  have HLen := Lib.hid (fun k (hk : k < xss.length) => (show (row (cdR P xss) k).length ≤ 1048576 from by rw [cdR_row hk]; have := filtL_len (idL P) (row xss k) (fun p q => p && !q); unfold cmpR minusL; omega))
  have HBlk := Lib.hid (fun (hf : ¬ full) k (hk : k < xss.length) => cdR_blocks hD (by rw [← hfull]; exact hf) hk)
  have HR := Lib.hid hr
  have HN := Lib.hid hn
  rw [hwa] at hO
  have HO := Lib.hid hO
  have HWa := Lib.hid hwa
  generalize cdP (P : Int) xss = rP at *
  generalize cdX (P : Int) xss = rX at *
  generalize cdC (P : Int) xss = rC at *
  clear hO hwa hXa hZa hBa hd hr hn hp hD hfull
  go_enter Try.func13, Try.ntmps13
  go_wp2_with fail
  refine (HO.out).mono ?_
  rintro e w' ⟨rfl, q, rfl⟩
  rw [← HWa.out]
  have HX2 := Lib.hid (HXa.out.drewN q)
  have HZ2 := Lib.hid (HZa.out.drewN q)
  have HB2 := Lib.hid (below_drewN HBa.out q)
  have hs2 : w.heap.size + 2 ≤ (wa.drewN q).heap.size := hsa
  generalize wa.drewN q = w2 at *
  have HE0 := Lib.hid (OwnM.lit0 w2 (Nat.le_refl w2.heap.size) (fun _ => (none, 0)))
  have HEb := Lib.hid ((Below.refl w2.heap.size w2).alloc (Nat.le_refl _) (.cells #[] 37))
  go_wp2
  go_loopw [4, 5] (fun o v wr => ∃ (k : Nat) (A' : Option Addr) (c' : Nat) (R' : Spine), k ≤ n ∧ v = .int .i64 k ∧ o = .slice A' k c' ∧ Hid (∀ j, j < k → (row xss j).length ≠ P) ∧ Hid (OwnM wr w2.heap.size A' c' R' ((cdR P xss).take k)) ∧ Hid (Below w2.heap.size w2 wr)) (fun _ v _ => n - (intOf v).toNat)
  case atStart => exact ⟨0, _, _, _, Nat.zero_le _, rfl, rfl, Lib.hid (fun j hj => absurd hj (by omega)), HE0, HEb⟩
  case round =>
    obtain ⟨k, A', c', R', hk, rfl, rfl, HNo, HO3, HB3⟩ := hrel
    have hz3 := HB3.out.size
    have hx3 := HX2.out.below (HB3.out)
    have hc0 := hx3.c0
    have hc1 := hx3.c1
    have HZ3 := Lib.hid (HZ2.out.step (lo := w2.heap.size) (by omega) HB3.out)
    have HBw := Lib.hid (HB2.out.trans (HB3.out.mono HB2.out.size))
    by_cases hlt : k < n
    · have hkx : k < xss.length := by rw [HN.out]; exact hlt
      obtain ⟨b, off, e, hb, hc⟩ := HR.out.at_ k hkx
      have hcc := (HBw.out.cell (p := ⟨b, off + k, none⟩) hb).trans hc
      subst e
      have hk1 : (0 : Int) ≤ (k : Int) := by omega
      have hk2 : (k : Int) < (n : Int) := by omega
      have HAll := Lib.hid (fun (W : World) => l10All_c W P (by omega))
      have HMi := Lib.hid (fun (W : World) (hW : Below w.heap.size w W) (A4 : Option Addr) (n4 c4 : Nat) (h4 : RdI W A4 c4 (idL P)) (hn4 : (idL P).length = n4) => specMinusSets_c W A4 (R k).1 n4 (row xss k).length c4 (R k).2 (idL P) (row xss k) h4 hn4 ((HR.out.below hW).rows k hkx) rfl (idL_set hP) (setB_more (HSet.out k hkx) (by omega) (by omega)))
      have hB3d : Below w.heap.size w wr.drew := HBw.out.drew
      have hzd : wr.drew.heap.size = wr.heap.size := rfl
      have hbl : b < wr.heap.size := by have := HBw.out.size; omega
      have hxl : w.heap.size < wr.heap.size := by omega
      clear hc hx3
      go_wp2
      go_region_held3 (fun w' => w'.cell? ⟨w.heap.size, 0, none⟩ = some (.int .i64 (P : Int)) ∧ w'.cell? ⟨w.heap.size, 1, none⟩ = some (.slice (some ⟨b, off, none⟩) n c) ∧ w'.cell? ⟨b, off + k, none⟩ = some (.slice (R k).1 (row xss k).length (R k).2)) (first | exact ⟨hc0, hc1, hcc⟩ | exact ⟨(hb4.cell hxl).trans hc0, (hb4.cell hxl).trans hc1, (hb4.cell hbl).trans hcc⟩ | exact ⟨(hb6.cell hxl6).trans ((hb4.cell hxl).trans hc0), (hb6.cell hxl6).trans ((hb4.cell hxl).trans hc1), (hb6.cell hbl6).trans ((hb4.cell hbl).trans hcc)⟩)
        (first | (go_at_call 45; refine (HAll.out _).mono ?_; rintro e w4 ⟨⟨A4, n4, c4, rfl, hn4, ho4⟩, hb4⟩) | (go_at_call 44; refine (HMi.out w4 (hB3d.trans (hb4.mono hB3d.size)) A4 n4 c4 ho4.rd hn4).mono ?_; rintro e w6 ⟨⟨A6, n6, c6, rfl, hn6, ho6⟩, hb6⟩; have hxl6 := Nat.lt_of_lt_of_le hxl hb4.size; have hbl6 := Nat.lt_of_lt_of_le hbl hb4.size))
      have hB6 : Below w2.heap.size w2 w6 := HB3.out.drew.trans ((hb4.trans (hb6.mono hb4.size)).mono hz3)
      have hz6 := hB6.size
      have HN6 := Lib.hid (show (cmpR P (row xss k)).length = n6 from hn6)
      have HE6 := Lib.hid ((HO3.out.drew.below hb4).below hb6)
      have HX6 := Lib.hid (show OwnI w6 w2.heap.size A6 c6 (cmpR P (row xss k)) from ho6.lower (Nat.le_trans hz3 hb4.size))
      have HAp6 := Lib.hid (later_apart (HO3.out.drew.below hb4) ho6)
      have HB6 := Lib.hid hB6
      have HSu := Lib.hid (cdR_take (P := P) hkx)
      have HTl := Lib.hid (show ((cdR P xss).take k).length = k by rw [List.length_take, cdR_len]; omega)
      have hn6k : n6 ≤ 32 := by have := filtL_len (idL P) (row xss k) (fun p q => p && !q); have h6 := HN6.out; unfold cmpR minusL at h6; omega
      have HNil := Lib.hid (cmpR_nil hP (HSet.out k hkx))
      clear hn6 ho6 ho4 hn4 hxl6 hbl6 hc0 hc1 hcc hB3d hzd hbl hxl hb4 hb6
      by_cases hfu : (row xss k).length = P
      · obtain rfl : n6 = 0 := by rw [← HN6.out]; exact HNil.out.2 hfu
        obtain ⟨e1, e2, e3⟩ := HRes.out.1 (HFull.out.2 ⟨k, hkx, hfu⟩)
        subst e1 e2 e3
        have HZ6 := Lib.hid (HZ2.out.step (lo := w2.heap.size) (by omega) HB6.out)
        have HBw6 := Lib.hid (HB2.out.trans (HB6.out.mono HB2.out.size))
        clear hfu
        have rz := HZ6.out
        have z0 := rz.c0
        have z1 := rz.c1
        have y0 := rz.f0
        have y1 := rz.f1
        clear rz
        go_wp2
        obtain ⟨r0, r1⟩ := HZ6.out.read (.int .i64 0) (.slice none 0 0)
        refine bodyPost_ret (v := .tuple #[.agg #[.int .i64 0, .slice none 0 0], .int .i64 6]) (by simp [results, Try.results13, go_sem, r0, r1]) rfl ⟨⟨none, 0, 0, fun _ => (none, 0), rfl, rfl, OwnM.nil_ _ _ _⟩, below_set2 HBw6.out (by omega)⟩
      · have hn60 : ¬ n6 = 0 := fun e => hfu (HNil.out.1 (by rw [HN6.out]; exact e))
        have HNo' := Lib.hid (show ∀ j, j < k + 1 → (row xss j).length ≠ P from fun j hj => by
          by_cases e : j = k
          · rw [e]; exact hfu
          · exact HNo.out j (by omega))
        have hd0 : ((n6 : Int) == 0) = false := by simp; omega
        have HE7 := Lib.hid (HE6.out.alloc (.cells #[.slice A6 n6 c6] 37))
        have HX7 := Lib.hid (HX6.out.alloc (.cells #[.slice A6 n6 c6] 37))
        clear hfu
        go_wp2_with (at_builtin
                     refine wpM_append rfl _ _ rfl w2.heap.size _ _ _ R' ((cdR P xss).take k) A6 n6 c6 (cmpR P (row xss k)) w6.heap.size rfl rfl HTl.out HN6.out HE7.out HX7.out HAp6.out (World.cell?_alloc_at _ _ _ _ rfl) (by omega) (by simp; omega) ?_
                     intro A5 c5 R5 w5 ho5 hg5 ha5)
        have HB5 := Lib.hid ((HB6.out.alloc hz6 (.cells #[.slice A6 n6 c6] 37)).trans (below_blkM HE7.out hg5 (Nat.le_refl _) (by simp; omega)))
        have HO5 := Lib.hid (show OwnM w5 w2.heap.size A5 c5 R5 ((cdR P xss).take (k + 1)) from by rw [HSu.out]; exact ho5)
        clear ho5 hg5 ha5
        go_wp2
        go_roundw
        case rel => exact ⟨k + 1, A5, c5, R5, by omega, by go_num, rfl, HNo', HO5, HB5⟩
        case measure => simp [intOf]; omega
    · obtain rfl : k = n := by omega
      have hnf : ¬ full := fun h => by
        obtain ⟨j, hj, e⟩ := HFull.out.1 h
        exact HNo.out j (by rw [← HN.out]; exact hj) e
      obtain ⟨e1, e2, e3⟩ := HRes.out.2 hnf
      subst e1 e2 e3
      have HOf := Lib.hid (show OwnM wr w2.heap.size A' c' R' (cdR P xss) from by have := HO3.out; rwa [List.take_of_length_le (by rw [cdR_len, HN.out]; exact Nat.le_refl _)] at this)
      have HMk := Lib.hid (l10Make_c wr (P : Int) A' k c' R' (cdR P xss) HOf.out.rd (by rw [cdR_len]; exact HN.out) (by omega) (fun j hj => HLen.out j (by rw [HN.out]; exact hj)) (by omega) (by omega) (fun j hj => HBlk.out hnf j (by rw [HN.out]; exact hj)))
      go_wp2_with fail
      refine (HMk.out).mono ?_
      rintro e w9 ⟨⟨A9, n9, c9, R9, rfl, hn9, ho9⟩, hb9⟩
      have HZ9 := Lib.hid (HZ3.out.step (lo := wr.heap.size) (by omega) hb9)
      have HB9 := Lib.hid (HBw.out.trans (hb9.mono HBw.out.size))
      have HO9 := Lib.hid (show OwnM w9 (w.heap.size + 1 + 1) A9 c9 R9 (mkL (cdR P xss)) from ho9.lower (by omega))
      have HN9 := Lib.hid hn9
      clear hb9 ho9 hn9
      generalize mkL (cdR P xss) = lst at *
      generalize mkP (P : Int) (cdR P xss) = ptz at *
      generalize mkC (cdR P xss) = cdz at *
      have rz := HZ9.out
      have z0 := rz.c0
      have z1 := rz.c1
      have y0 := rz.f0
      have y1 := rz.f1
      clear rz
      go_wp2
      obtain ⟨r0, r1⟩ := HZ9.out.read (.int .i64 ptz) (.slice A9 n9 c9)
      refine bodyPost_ret (v := .tuple #[.agg #[.int .i64 ptz, .slice A9 n9 c9], .int .i64 cdz]) (by simp [results, Try.results13, go_sem, r0, r1]) rfl ⟨⟨A9, n9, c9, R9, rfl, HN9.out, own_set2 HO9.out (by omega) _ _⟩, below_set2 HB9.out (by omega)⟩

set_option maxRecDepth 100000 in
set_option maxHeartbeats 8000000 in
theorem implComplementDesign_c (w : World) (p : Int) (hp : -9223372036854775808 ≤ p ∧ p ≤ 9223372036854775807) (A : Option Addr) (n c : Nat) (R : Spine) (xss : List (List Int)) (hr : RdM w A c R xss) (hn : xss.length = n) (hw : WfM xss) (hz : (n : Int) + (tot xss : Nat) ≤ 1048576) :
    Calls Try.prog 15 #[.agg #[.int .i64 p, .slice A n c]] w (PostDC w (cdP p xss) (cdX p xss) (cdC p xss)) := by
  clear hw hz
  have hzD := zeroD
  obtain ⟨wa, hwa⟩ : ∃ wa, wa = (w.alloc (.cells #[.int .i64 p, .slice A n c] 26)).alloc (.cells #[.int .i64 0, .slice none 0 0] 26) := ⟨_, rfl⟩
  have hXa : BoxD wa w.heap.size p A n c := by rw [hwa]; exact (BoxD.made _ _ _ _ _ _).below (below_boxed _ _)
  have hZa : RBox wa (w.heap.size + 1) := by
    rw [hwa]
    have := RBox.made (w.alloc (.cells #[.int .i64 p, .slice A n c] 26)) 26
    simpa using this
  have hBa : Below w.heap.size w wa := by rw [hwa]; exact (below_boxed _ _).alloc (by simp) _
  have hsa : w.heap.size + 2 ≤ wa.heap.size := by rw [hwa]; simp
  have HXa := Lib.hid hXa
  have HZa := Lib.hid hZa
  have HBa := Lib.hid hBa
  have hO := ValidDesign_c wa p A n c R xss (hr.below hBa) hn
  rcases hd : dsgB p xss with _ | _
  · rw [hd] at hO
    rw [show cdP p xss = 0 by unfold cdP; rw [hd]; rfl, show cdX p xss = [] by unfold cdX; rw [hd]; rfl, show cdC p xss = 1 by unfold cdC; rw [hd]; rfl]
    rw [hwa] at hO
    have HO := Lib.hid hO
    have HWa := Lib.hid hwa
    clear hO hwa hXa hZa hBa hd hr hn hp
    go_enter Try.func15, Try.ntmps15
    go_wp2_with fail
    refine (HO.out).mono ?_
    rintro e w2 ⟨rfl, hb2⟩
    rw [← HWa.out] at hb2
    have HZ2 := Lib.hid (HZa.out.step (lo := wa.heap.size) (by omega) hb2)
    have HB2 := Lib.hid (HBa.out.trans (hb2.mono HBa.out.size))
    clear hb2
    have rz := HZ2.out
    have z0 := rz.c0
    have z1 := rz.c1
    have y0 := rz.f0
    have y1 := rz.f1
    clear rz
    go_wp2
    obtain ⟨r0, r1⟩ := HZ2.out.read (.int .i64 0) (.slice none 0 0)
    refine bodyPost_ret (v := .tuple #[.agg #[.int .i64 0, .slice none 0 0], .int .i64 1]) (by simp [results, Try.results15, go_sem, r0, r1]) rfl ⟨⟨none, 0, 0, fun _ => (none, 0), rfl, rfl, OwnM.nil_ _ _ _⟩, below_set2 HB2.out (by omega)⟩
  rw [hd] at hO
  have hD := dsgB_true.1 hd
  obtain ⟨P, rfl⟩ : ∃ P : Nat, p = (P : Int) := ⟨p.toNat, by have := hD.1.1; omega⟩
  have hP : P ≤ 32 := by have := hD.1.2; omega
  have hn128 : n ≤ 128 := by have := hD.2.1; omega
  obtain ⟨full, hfull⟩ : ∃ full : Prop, full = cdFull P xss := ⟨_, rfl⟩
  have HFull := Lib.hid (show full ↔ ∃ k, k < xss.length ∧ (row xss k).length = P from by rw [hfull]; exact Iff.rfl)
  have HRes : (full → cdP (P : Int) xss = 0 ∧ cdX (P : Int) xss = [] ∧ cdC (P : Int) xss = 6) ∧ (¬ full → cdP (P : Int) xss = mkP (P : Int) (cdR P xss) ∧ cdX (P : Int) xss = mkL (cdR P xss) ∧ cdC (P : Int) xss = mkC (cdR P xss)) := by
    rw [hfull]
    refine ⟨fun h => ?_, fun h => ?_⟩
    · unfold cdP cdX cdC; rw [if_pos hd, if_pos hd, if_pos hd]; exact ⟨if_pos h, if_pos h, if_pos h⟩
    · unfold cdP cdX cdC; rw [if_pos hd, if_pos hd, if_pos hd]; exact ⟨if_neg h, if_neg h, if_neg h⟩
  have HRes := Lib.hid HRes
  have HSet := Lib.hid (fun k (hk : k < xss.length) => (show setB (row xss k) (P : Int) = true from blockB_set (hD.2.2 k hk).1))
  have HLen := Lib.hid (fun k (hk : k < xss.length) => (show (row (cdR P xss) k).length ≤ 1048576 from by rw [cdR_row hk]; have := filtL_len (idL P) (row xss k) (fun p q => p && !q); unfold cmpR minusL; omega))
  have HBlk := Lib.hid (fun (hf : ¬ full) k (hk : k < xss.length) => cdR_blocks hD (by rw [← hfull]; exact hf) hk)
  have HR := Lib.hid hr
  have HN := Lib.hid hn
  rw [hwa] at hO
  have HO := Lib.hid hO
  have HWa := Lib.hid hwa
  generalize cdP (P : Int) xss = rP at *
  generalize cdX (P : Int) xss = rX at *
  generalize cdC (P : Int) xss = rC at *
  clear hO hwa hXa hZa hBa hd hr hn hp hD hfull
  go_enter Try.func15, Try.ntmps15
  go_wp2_with fail
  refine (HO.out).mono ?_
  rintro e w2 ⟨rfl, hb2⟩
  rw [← HWa.out] at hb2
  have HX2 := Lib.hid (HXa.out.below hb2)
  have HZ2 := Lib.hid (HZa.out.step (lo := wa.heap.size) (by omega) hb2)
  have HB2 := Lib.hid (HBa.out.trans (hb2.mono HBa.out.size))
  have hs2 : w.heap.size + 2 ≤ w2.heap.size := by have := hb2.size; omega
  have hc0 := HX2.out.c0
  have hc1 := HX2.out.c1
  clear hb2
  have HE0 := Lib.hid (OwnM.nil_ w2 w2.heap.size (fun _ => (none, 0)))
  have HEb := Lib.hid (Below.refl w2.heap.size w2)
  go_wp2
  clear hc0 hc1
  go_loopw [4, 14] (fun o v wr => ∃ (k : Nat) (A' : Option Addr) (c' : Nat) (R' : Spine), k ≤ n ∧ v = .int .i64 k ∧ o = .slice A' k c' ∧ Hid (∀ j, j < k → (row xss j).length ≠ P) ∧ Hid (OwnM wr w2.heap.size A' c' R' ((cdR P xss).take k)) ∧ Hid (Below w2.heap.size w2 wr)) (fun _ v _ => n - (intOf v).toNat)
  case atStart => exact ⟨0, _, _, _, Nat.zero_le _, rfl, rfl, Lib.hid (fun j hj => absurd hj (by omega)), HE0, HEb⟩
  case round =>
    obtain ⟨k, A', c', R', hk, rfl, rfl, HNo, HO3, HB3⟩ := hrel
    by_cases hlt : k < n
    · have hkx : k < xss.length := by rw [HN.out]; exact hlt
      obtain ⟨b, off, e, hb, hc⟩ := HR.out.at_ k hkx
      have hx3 := HX2.out.below (HB3.out)
      have hc0 := hx3.c0
      have hc1 := hx3.c1
      have hcc := ((HB2.out.trans (HB3.out.mono HB2.out.size)).cell (p := ⟨b, off + k, none⟩) hb).trans hc
      subst e
      have hk1 : (0 : Int) ≤ (k : Int) := by omega
      have hk2 : (k : Int) < (n : Int) := by omega
      clear hc hx3
      by_cases hfu : (row xss k).length = P
      · have hfd : (((row xss k).length : Int) == (P : Int)) = true := by simp [hfu]
        obtain ⟨e1, e2, e3⟩ := HRes.out.1 (HFull.out.2 ⟨k, hkx, hfu⟩)
        subst e1 e2 e3
        clear hfu
        go_wp2
        go_quiet ((go_at_call 48; exact quiet_n (sizeI_c _ _ _ _)))
        have HZ6 := Lib.hid ((HZ2.out.step (lo := w2.heap.size) (by omega) HB3.out).drewN nq)
        have HBw6 := Lib.hid (below_drewN (HB2.out.trans (HB3.out.mono HB2.out.size)) nq)
        clear hc0 hc1 hcc
        generalize wr.drewN nq = w6 at *
        have rz := HZ6.out
        have z0 := rz.c0
        have z1 := rz.c1
        have y0 := rz.f0
        have y1 := rz.f1
        clear rz
        go_wp2
        obtain ⟨r0, r1⟩ := HZ6.out.read (.int .i64 0) (.slice none 0 0)
        refine bodyPost_ret (v := .tuple #[.agg #[.int .i64 0, .slice none 0 0], .int .i64 6]) (by simp [results, Try.results15, go_sem, r0, r1]) rfl ⟨⟨none, 0, 0, fun _ => (none, 0), rfl, rfl, OwnM.nil_ _ _ _⟩, below_set2 HBw6.out (by omega)⟩
      · have hfd : (((row xss k).length : Int) == (P : Int)) = false := by simp; omega
        have HNil := Lib.hid (cmpR_nil hP (HSet.out k hkx))
        have HNo' := Lib.hid (show ∀ j, j < k + 1 → (row xss j).length ≠ P from fun j hj => by
          by_cases e : j = k
          · rw [e]; exact hfu
          · exact HNo.out j (by omega))
        clear hfu
        go_wp2
        go_quiet ((go_at_call 48; exact quiet_n (sizeI_c _ _ _ _)))
        have HO4 := Lib.hid (HO3.out.drewN nq)
        have HB4 := Lib.hid (below_drewN HB3.out nq)
        have hz4 := HB4.out.size
        have hx4 := HX2.out.below (HB4.out)
        clear hc0 hc1 hcc hfd
        generalize wr.drewN nq = wq at *
        have hc0 := hx4.c0
        have hc1 := hx4.c1
        have HBw := Lib.hid (HB2.out.trans (HB4.out.mono HB2.out.size))
        have HAll := Lib.hid (allPoints_c wq P (by omega))
        have HSu := Lib.hid (cdR_take (P := P) hkx)
        have HTl := Lib.hid (show ((cdR P xss).take k).length = k by rw [List.length_take, cdR_len]; omega)
        clear hx4
        go_wp2_with fail
        refine (HAll.out).mono ?_
        rintro e w4 ⟨⟨A4, n4, c4, rfl, hn4, ho4⟩, hb4⟩
        have HMi := Lib.hid (MinusSets_c w4 A4 (R k).1 n4 (row xss k).length c4 (R k).2 (idL P) (row xss k) ho4.rd hn4 ((HR.out.below (HBw.out.trans (hb4.mono HBw.out.size))).rows k hkx) rfl)
        have HO5 := Lib.hid (HO4.out.below hb4)
        have HB5 := Lib.hid (HB4.out.trans (hb4.mono hz4))
        have hz5 := HB5.out.size
        clear hn4 ho4 hb4 hc0 hc1
        go_wp2_with fail
        refine (HMi.out).mono ?_
        rintro e w6 ⟨⟨A6, n6, c6, rfl, hn6, ho6⟩, hb6⟩
        have HB6 := Lib.hid (HB5.out.trans (hb6.mono hz5))
        have hz6 := HB6.out.size
        have HN6 := Lib.hid (show (cmpR P (row xss k)).length = n6 from hn6)
        have HAp6 := Lib.hid (later_apart HO5.out ho6)
        have HE7 := Lib.hid ((HO5.out.below hb6).alloc (.cells #[.slice A6 n6 c6] 37))
        have HX7 := Lib.hid ((show OwnI w6 w2.heap.size A6 c6 (cmpR P (row xss k)) from ho6.lower hz5).alloc (.cells #[.slice A6 n6 c6] 37))
        clear hn6 ho6 hb6
        go_wp2_with (at_builtin
                     refine wpM_append rfl _ _ rfl w2.heap.size _ _ _ R' ((cdR P xss).take k) A6 n6 c6 (cmpR P (row xss k)) w6.heap.size rfl rfl HTl.out HN6.out HE7.out HX7.out HAp6.out (World.cell?_alloc_at _ _ _ _ rfl) (by omega) (by simp; omega) ?_
                     intro A8 c8 R8 w8 ho8 hg8 ha8)
        have HB8 := Lib.hid ((HB6.out.alloc hz6 (.cells #[.slice A6 n6 c6] 37)).trans (below_blkM HE7.out hg8 (Nat.le_refl _) (by simp; omega)))
        have HO8 := Lib.hid (show OwnM w8 w2.heap.size A8 c8 R8 ((cdR P xss).take (k + 1)) from by rw [HSu.out]; exact ho8)
        clear ho8 hg8 ha8
        go_wp2
        go_roundw
        case rel => exact ⟨k + 1, A8, c8, R8, by omega, by go_num, rfl, HNo', HO8, HB8⟩
        case measure => simp [intOf]; omega
    · obtain rfl : k = n := by omega
      have hnf : ¬ full := fun h => by
        obtain ⟨j, hj, e⟩ := HFull.out.1 h
        exact HNo.out j (by rw [← HN.out]; exact hj) e
      obtain ⟨e1, e2, e3⟩ := HRes.out.2 hnf
      subst e1 e2 e3
      have HOf := Lib.hid (show OwnM wr w2.heap.size A' c' R' (cdR P xss) from by have := HO3.out; rwa [List.take_of_length_le (by rw [cdR_len, HN.out]; exact Nat.le_refl _)] at this)
      have HMk := Lib.hid (sorted_c wr (P : Int) A' k c' R' (cdR P xss) HOf.out.rd (by rw [cdR_len]; exact HN.out) (by omega) (fun j hj => HLen.out j (by rw [HN.out]; exact hj)))
      have hz3 := HB3.out.size
      have hx3 := HX2.out.below (HB3.out)
      have hc0 := hx3.c0
      have hc1 := hx3.c1
      have HZ3 := Lib.hid (HZ2.out.step (lo := w2.heap.size) (by omega) HB3.out)
      have HBw := Lib.hid (HB2.out.trans (HB3.out.mono HB2.out.size))
      clear hx3
      go_wp2_with fail
      refine (HMk.out).mono ?_
      rintro e w9 ⟨⟨A9, n9, c9, R9, rfl, hn9, ho9⟩, hb9⟩
      have HZ9 := Lib.hid (HZ3.out.step (lo := wr.heap.size) (by omega) hb9)
      have HB9 := Lib.hid (HBw.out.trans (hb9.mono HBw.out.size))
      have HO9 := Lib.hid (show OwnM w9 (w.heap.size + 1 + 1) A9 c9 R9 (mkL (cdR P xss)) from ho9.lower (by omega))
      have HN9 := Lib.hid hn9
      clear hb9 ho9 hn9
      generalize mkL (cdR P xss) = lst at *
      generalize mkP (P : Int) (cdR P xss) = ptz at *
      generalize mkC (cdR P xss) = cdz at *
      have rz := HZ9.out
      have z0 := rz.c0
      have z1 := rz.c1
      have y0 := rz.f0
      have y1 := rz.f1
      clear rz
      go_wp2
      obtain ⟨r0, r1⟩ := HZ9.out.read (.int .i64 ptz) (.slice A9 n9 c9)
      refine bodyPost_ret (v := .tuple #[.agg #[.int .i64 ptz, .slice A9 n9 c9], .int .i64 cdz]) (by simp [results, Try.results15, go_sem, r0, r1]) rfl ⟨⟨A9, n9, c9, R9, rfl, HN9.out, own_set2 HO9.out (by omega) _ _⟩, below_set2 HB9.out (by omega)⟩
end Go.Proofs.Ytdneldecedbepaa
