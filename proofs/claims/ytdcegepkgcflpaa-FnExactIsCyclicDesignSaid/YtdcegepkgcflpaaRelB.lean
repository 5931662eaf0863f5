/-
  The image of a design: l10Image of the reference, relabeled of the program. Conditions: those of each theorem.
-/
import Derived.Test.YtdcegepkgcflpaaRelA
namespace Go.Proofs.Ytdcegepkgcflpaa
open Go.RowKit
set_option linter.unusedVariables false
set_option linter.unusedSimpArgs false

/-- It returned a design of its own memory. -/
def PostD (w : World) (p : Int) (xss : List (List Int)) (e : Ending) (w' : World) : Prop :=
  (∃ A n c R, e = .returned (.agg #[.int .i64 p, .slice A n c]) ∧ xss.length = n ∧ OwnM w' w.heap.size A c R xss) ∧ Below w.heap.size w w'
theorem keep1 {lo : Nat} {w w' : World} {q : Addr} {v : Option Value} (hb : Below lo w w') (h1 : q.block < lo) (h : w.cell? q = v) : w'.cell? q = v := (hb.cell h1).trans h

set_option maxRecDepth 100000 in
set_option maxHeartbeats 8000000 in
theorem l10Image_c (w : World) (g : Nat) (P : Int) (A B : Option Addr) (n c m d : Nat) (R : Spine) (xss : List (List Int)) (p : List Int) (hx : BoxD w g P A n c) (hr : RdM w A c R xss) (hn : xss.length = n) (hn128 : n ≤ 128) (hy : RdI w B d p) (hm : p.length = m) (hm32 : m ≤ 32)
    (hset : ∀ k, k < xss.length → setB (row xss k) (m : Int) = true) (hpos : ∀ k, k < xss.length → 0 < (row xss k).length) :
    Calls Try.prog 42 #[.pointer (some ⟨g, 0, none⟩), .slice B m d] w (PostD w P (sortLL (rbR p xss))) := by
  have hzD := zeroD
  obtain ⟨wa, hwa⟩ : ∃ wa, wa = w.alloc (.cells #[.int .i64 0, .slice none 0 0] 25) := ⟨_, rfl⟩
  have hZa : RBox wa w.heap.size := by rw [hwa]; exact RBox.made w 25
  have hBa : Below w.heap.size w wa := by rw [hwa]; exact below_boxed w (.cells #[.int .i64 0, .slice none 0 0] 25)
  have hsa : w.heap.size + 1 ≤ wa.heap.size := by rw [hwa]; simp
  have HZa := Lib.hid hZa
  have HBa := Lib.hid hBa
  have hrow : ∀ k, k < xss.length → (row xss k).length ≤ 32 := fun k hk => setB_len (P := 32) (setB_more (hset k hk) (by omega) (by omega))
  have HIm := Lib.hid (fun (W : World) (hb : Below w.heap.size w W) (k : Nat) (hk : k < xss.length) => l04Image_c W B (R k).1 m (row xss k).length d (R k).2 p (row xss k) (hy.below hb) hm ((hr.below hb).rows k hk) rfl (by have := hrow k hk; omega) (fun i hi => (setB_iff.1 (hset k hk)).2.1 _ (mem_nth.2 ⟨i, hi, rfl⟩)))
  have HLen := Lib.hid (fun k (hk : k < n) => (show (row (rbR p xss) k).length ≤ 32 from by rw [rbR_row (by omega)]; have := imL_len p (row xss k); have := hrow k (by omega); omega))
  have HPos := Lib.hid (fun k (hk : k < xss.length) => (show 0 < (row (rbR p xss) k).length from by rw [rbR_row hk]; exact imL_pos (hpos k hk)))
  have HIl := Lib.hid (fun k (hk : k < xss.length) => (show (imL p (row xss k)).length ≤ 32 from by have := imL_len p (row xss k); have := hrow k hk; omega))
  have HR := Lib.hid hr
  have HN := Lib.hid hn
  have HWa := Lib.hid hwa
  have HX := Lib.hid hx
  have hgl := hx.lt
  clear hwa hZa hBa hr hn hy hm hset hpos hrow hx
  have hse : wa.heap.size = w.heap.size + 1 := by rw [HWa.out]; simp
  have HE0 := Lib.hid (show OwnM (wa.alloc (.cells #[] 50)) wa.heap.size (some ⟨w.heap.size + 1, 0, none⟩) 0 (fun _ => (none, 0)) [] from by rw [← hse]; exact OwnM.lit0 wa (Nat.le_refl wa.heap.size) (fun _ => (none, 0)))
  have HEb := Lib.hid ((Below.refl wa.heap.size wa).alloc (Nat.le_refl _) (.cells #[] 50))
  rw [HWa.out] at HE0 HEb
  clear hse
  go_enter Try.func42, Try.ntmps42
  go_wp2
  rw [← HWa.out] at HE0 HEb ⊢
  go_loopw [5, 6] (fun o v wr => ∃ (k : Nat) (A' : Option Addr) (c' : Nat) (R' : Spine), k ≤ n ∧ v = .int .i64 k ∧ o = .slice A' k c' ∧ Hid (OwnM wr wa.heap.size A' c' R' ((rbR p xss).take k)) ∧ Hid (Below wa.heap.size wa wr)) (fun _ v _ => n - (intOf v).toNat)
  case atStart => exact ⟨0, _, _, _, Nat.zero_le _, rfl, rfl, HE0, HEb⟩
  case round =>
    obtain ⟨k, A', c', R', hk, rfl, rfl, HO3, HB3⟩ := hrel
    have HBw := Lib.hid (HBa.out.trans (HB3.out.mono HBa.out.size))
    have hx3 := HX.out.step hgl HBw.out
    have hc0 := hx3.c0
    have hc1 := hx3.c1
    have hsz3 := HB3.out.size
    by_cases hlt : k < n
    · have hkx : k < xss.length := by rw [HN.out]; exact hlt
      obtain ⟨b, off, e, hb, hc⟩ := HR.out.at_ k hkx
      have hcc := (HBw.out.cell (p := ⟨b, off + k, none⟩) hb).trans hc
      subst e
      have hk1 : (0 : Int) ≤ (k : Int) := by omega
      have hk2 : (k : Int) < (n : Int) := by omega
      have HImk := Lib.hid (HIm.out wr HBw.out k hkx)
      have HSu := Lib.hid (rbR_take (p := p) hkx)
      have HTl := Lib.hid (show ((rbR p xss).take k).length = k by rw [List.length_take, rbR_len]; omega)
      have hil := HIl.out k hkx
      clear hc hx3
      generalize imL p (row xss k) = im at *
      go_wp2_with fail
      refine (HImk.out).mono ?_
      rintro e w4 ⟨⟨A4, n4, c4, rfl, hn4, ho4⟩, hb4⟩
      have hzr : wa.heap.size ≤ wr.heap.size := HB3.out.size
      have hB4 : Below wa.heap.size wa w4 := HB3.out.trans (hb4.mono hzr)
      have hz4 := hB4.size
      have HN4 := Lib.hid hn4
      have HX4 := Lib.hid ((ho4.lower (lo' := wa.heap.size) hzr).alloc (.cells #[.slice A4 n4 c4] 50))
      have HE4 := Lib.hid ((HO3.out.below hb4).alloc (.cells #[.slice A4 n4 c4] 50))
      have HAp4 := Lib.hid (later_apart HO3.out ho4)
      have HB4 := Lib.hid (hB4.alloc hz4 (.cells #[.slice A4 n4 c4] 50))
      clear hn4 ho4 hb4 hB4 hzr
      go_wp2_with (at_builtin
                   refine wpM_append rfl _ _ rfl wa.heap.size _ _ _ R' ((rbR p xss).take k) A4 n4 c4 (im) w4.heap.size rfl rfl (HTl.out) HN4.out HE4.out HX4.out HAp4.out (World.cell?_alloc_at _ _ _ _ rfl) (by omega) (by simp; omega) ?_
                   intro A5 c5 R5 w5 ho5 hg5 ha5)
      have HB5 := Lib.hid (HB4.out.trans (below_blkM HE4.out hg5 (Nat.le_refl _) (by simp; omega)))
      have HO5 := Lib.hid ho5
      clear ho5 hg5 ha5
      have HO6 := Lib.hid (show OwnM w5 wa.heap.size A5 c5 R5 ((rbR p xss).take (k + 1)) from by rw [HSu.out]; exact HO5.out)
      clear hc0 hc1 hcc
      go_wp2
      go_roundw
      case rel => exact ⟨k + 1, A5, c5, R5, by omega, by go_num, rfl, HO6, HB5⟩
      case measure => simp [intOf]; omega
    · obtain rfl : k = n := by omega
      have HOf := Lib.hid (show OwnM wr wa.heap.size A' c' R' (rbR p xss) from by have := HO3.out; rwa [List.take_of_length_le (by rw [rbR_len, HN.out]; exact Nat.le_refl _)] at this)
      have hcap : NilCap R' k := by
        have := nilCap_of_rows HOf.out.rd (fun i hi => HPos.out i (by rw [rbR_len] at hi; exact hi))
        rwa [rbR_len, HN.out] at this
      have HSo := Lib.hid (fun (W : World) (hb : Below wr.heap.size wr W) => l10Sort_c W A' k c' R' (rbR p xss) (HOf.out.rd.below hb) (by rw [rbR_len]; exact HN.out) hcap (by omega) (fun i hi => by have := HLen.out i hi; omega))
      have HSl := Lib.hid (show (sortLL (rbR p xss)).length = k by rw [sortLL_len, rbR_len]; exact HN.out)
      have HZ3 := Lib.hid (HZa.out.step (lo := wa.heap.size) (by omega) HB3.out)
      have HBd := Lib.hid (show Below wr.heap.size wr wr.drew from (Below.refl wr.heap.size wr).drew)
      have HBwd := Lib.hid (show Below w.heap.size w wr.drew from HBw.out.drew)
      have HZd := Lib.hid (show RBox wr.drew w.heap.size from HZ3.out.drewN 1)
      have hgd : g < wr.drew.heap.size := by show g < wr.heap.size; omega
      have hgw : w.heap.size < wr.drew.heap.size := by show w.heap.size < wr.heap.size; omega
      have hwd1 : w.heap.size + 1 ≤ wr.drew.heap.size := by show w.heap.size + 1 ≤ wr.heap.size; omega
      clear hcap hx3
      generalize sortLL (rbR p xss) = lst at *
      go_wp2
      go_region_held3 (fun w' => w'.cell? ⟨g, 0, none⟩ = some (.int .i64 P)) (first | exact hc0 | exact hS9 | exact hSs _ _)
        (first | (go_at_call 50; refine (HSo.out _ HBd.out).mono ?_; rintro e w9 ⟨⟨A9, n9, c9, R9, rfl, hn9, ho9⟩, hb9⟩; have hS9 := keep1 hb9 hgd hc0; have hSs := fun u0 u1 => keep1 (below_set2 (u0 := u0) (u1 := u1) (Below.refl w.heap.size w9) (Nat.le_refl w.heap.size)) hgl hS9; have HZ9 := Lib.hid (HZd.out.step hgw hb9); have HB9 := Lib.hid (HBwd.out.trans (hb9.mono HBwd.out.size)); have z0 := HZ9.out.c0; have z1 := HZ9.out.c1; have y0 := HZ9.out.f0; have y1 := HZ9.out.f1))
      have HO10 := Lib.hid (show OwnM w9 (w.heap.size + 1) A9 c9 R9 lst from ho9.lower hwd1)
      have HN9 := Lib.hid hn9
      clear ho9 hn9
      go_wp2
      obtain ⟨r0, r1⟩ := HZ9.out.read (.int .i64 P) (.slice A9 n9 c9)
      refine bodyPost_ret (v := .agg #[.int .i64 P, .slice A9 n9 c9]) (by simp [results, Try.results42, go_sem, r0, r1]) rfl ⟨⟨A9, n9, c9, R9, rfl, HN9.out, own_set2 HO10.out (by omega) _ _⟩, below_set2 HB9.out (by omega)⟩

set_option maxRecDepth 100000 in
set_option maxHeartbeats 8000000 in
theorem relabeled_c (w : World) (p : Int) (A B : Option Addr) (n c m d : Nat) (R : Spine) (xss : List (List Int)) (q : List Int) (hr : RdM w A c R xss) (hn : xss.length = n) (hn128 : n ≤ 128) (hy : RdI w B d q) (hm : q.length = m) (hm32 : m ≤ 32) (hq : sortL q = idL q.length)
    (hset : ∀ k, k < xss.length → setB (row xss k) (m : Int) = true) :
    Calls Try.prog 47 #[.agg #[.int .i64 p, .slice A n c], .slice B m d] w (PostD w p (sortLL (rbR q xss))) := by
  have hzD := zeroD
  obtain ⟨wa, hwa⟩ : ∃ wa, wa = (w.alloc (.cells #[.int .i64 p, .slice A n c] 25)).alloc (.cells #[.int .i64 0, .slice none 0 0] 25) := ⟨_, rfl⟩
  have hXa : BoxD wa w.heap.size p A n c := by rw [hwa]; exact (BoxD.made _ _ _ _ _ _).below (below_boxed _ _)
  have hZa : RBox wa (w.heap.size + 1) := by
    rw [hwa]
    have := RBox.made (w.alloc (.cells #[.int .i64 p, .slice A n c] 25)) 25
    simpa using this
  have hBa : Below w.heap.size w wa := by rw [hwa]; exact (below_boxed _ _).alloc (by simp) _
  have hsa : w.heap.size + 2 ≤ wa.heap.size := by rw [hwa]; simp
  have HXa := Lib.hid hXa
  have HZa := Lib.hid hZa
  have HBa := Lib.hid hBa
  have hrow : ∀ k, k < xss.length → (row xss k).length ≤ 32 := fun k hk => setB_len (P := 32) (setB_more (hset k hk) (by omega) (by omega))
  have HIm := Lib.hid (fun (W : World) (hb : Below w.heap.size w W) (k : Nat) (hk : k < xss.length) => image_c W B (R k).1 m (row xss k).length d (R k).2 q (row xss k) (hy.below hb) hm ((hr.below hb).rows k hk) rfl (by have := hrow k hk; omega) (fun i hi => (setB_iff.1 (hset k hk)).2.1 _ (mem_nth.2 ⟨i, hi, rfl⟩)) (im_sort hq (by rw [hm]; exact hset k hk)))
  have HLen := Lib.hid (fun k (hk : k < n) => (show (row (rbR q xss) k).length ≤ 1048576 from by rw [rbR_row (by omega)]; have := imL_len q (row xss k); have := hrow k (by omega); omega))
  have HIl := Lib.hid (fun k (hk : k < xss.length) => (show (imL q (row xss k)).length ≤ 32 from by have := imL_len q (row xss k); have := hrow k hk; omega))
  have HR := Lib.hid hr
  have HN := Lib.hid hn
  have HWa := Lib.hid hwa
  clear hwa hXa hZa hBa hr hn hy hm hset hrow hq
  go_enter Try.func47, Try.ntmps47
  go_wp2
  rw [← HWa.out]
  have HE0 := Lib.hid (OwnM.nil_ wa wa.heap.size (fun _ => (none, 0)))
  have HEb := Lib.hid (Below.refl wa.heap.size wa)
  go_loopw [5, 13] (fun o v wr => ∃ (k : Nat) (A' : Option Addr) (c' : Nat) (R' : Spine), k ≤ n ∧ v = .int .i64 k ∧ o = .slice A' k c' ∧ Hid (OwnM wr wa.heap.size A' c' R' ((rbR q xss).take k)) ∧ Hid (Below wa.heap.size wa wr)) (fun _ v _ => n - (intOf v).toNat)
  case atStart => exact ⟨0, _, _, _, Nat.zero_le _, rfl, rfl, HE0, HEb⟩
  case round =>
    obtain ⟨k, A', c', R', hk, rfl, rfl, HO3, HB3⟩ := hrel
    have HBw := Lib.hid (HBa.out.trans (HB3.out.mono HBa.out.size))
    have hsz3 := HB3.out.size
    by_cases hlt : k < n
    · have hkx : k < xss.length := by rw [HN.out]; exact hlt
      obtain ⟨b, off, e, hb, hc⟩ := HR.out.at_ k hkx
      have hcc := (HBw.out.cell (p := ⟨b, off + k, none⟩) hb).trans hc
      subst e
      have hk1 : (0 : Int) ≤ (k : Int) := by omega
      have hk2 : (k : Int) < (n : Int) := by omega
      have HImk := Lib.hid (HIm.out wr HBw.out k hkx)
      have HSu := Lib.hid (rbR_take (p := q) hkx)
      have HTl := Lib.hid (show ((rbR q xss).take k).length = k by rw [List.length_take, rbR_len]; omega)
      have hil := HIl.out k hkx
      clear hc
      generalize imL q (row xss k) = im at *
      go_wp2_with fail
      refine (HImk.out).mono ?_
      rintro e w4 ⟨⟨A4, n4, c4, rfl, hn4, ho4⟩, hb4⟩
      have hzr : wa.heap.size ≤ wr.heap.size := HB3.out.size
      have hB4 : Below wa.heap.size wa w4 := HB3.out.trans (hb4.mono hzr)
      have hz4 := hB4.size
      have HN4 := Lib.hid hn4
      have HX4 := Lib.hid ((ho4.lower (lo' := wa.heap.size) hzr).alloc (.cells #[.slice A4 n4 c4] 50))
      have HE4 := Lib.hid ((HO3.out.below hb4).alloc (.cells #[.slice A4 n4 c4] 50))
      have HAp4 := Lib.hid (later_apart HO3.out ho4)
      have HB4 := Lib.hid (hB4.alloc hz4 (.cells #[.slice A4 n4 c4] 50))
      clear hn4 ho4 hb4 hB4 hzr
      go_wp2_with (at_builtin
                   refine wpM_append rfl _ _ rfl wa.heap.size _ _ _ R' ((rbR q xss).take k) A4 n4 c4 (im) w4.heap.size rfl rfl (HTl.out) HN4.out HE4.out HX4.out HAp4.out (World.cell?_alloc_at _ _ _ _ rfl) (by omega) (by simp; omega) ?_
                   intro A5 c5 R5 w5 ho5 hg5 ha5)
      have HB5 := Lib.hid (HB4.out.trans (below_blkM HE4.out hg5 (Nat.le_refl _) (by simp; omega)))
      have HO5 := Lib.hid ho5
      clear ho5 hg5 ha5
      have HO6 := Lib.hid (show OwnM w5 wa.heap.size A5 c5 R5 ((rbR q xss).take (k + 1)) from by rw [HSu.out]; exact HO5.out)
      clear hcc
      go_wp2
      go_roundw
      case rel => exact ⟨k + 1, A5, c5, R5, by omega, by go_num, rfl, HO6, HB5⟩
      case measure => simp [intOf]; omega
    · obtain rfl : k = n := by omega
      have hx3 := HXa.out.step (by have := HXa.out.lt; omega) HB3.out
      have hc0 := hx3.c0
      have hc1 := hx3.c1
      have HOf := Lib.hid (show OwnM wr wa.heap.size A' c' R' (rbR q xss) from by have := HO3.out; rwa [List.take_of_length_le (by rw [rbR_len, HN.out]; exact Nat.le_refl _)] at this)
      have hMk := sorted_c wr p A' k c' R' (rbR q xss) HOf.out.rd (by rw [rbR_len]; exact HN.out) (by omega) (fun i hi => HLen.out i hi)
      have hl : (rbR q xss).length ≤ 128 := by rw [rbR_len, HN.out]; exact hn128
      rw [show mkP p (rbR q xss) = p from if_pos hl, show mkL (rbR q xss) = sortLL (rbR q xss) from if_pos hl, show mkC (rbR q xss) = 0 from if_pos hl] at hMk
      have HMk := Lib.hid hMk
      have HZ3 := Lib.hid (HZa.out.step (lo := wa.heap.size) (by omega) HB3.out)
      clear hMk hl hx3
      generalize sortLL (rbR q xss) = lst at *
      go_wp2_with fail
      refine (HMk.out).mono ?_
      rintro e w9 ⟨⟨A9, n9, c9, R9, rfl, hn9, ho9⟩, hb9⟩
      obtain ⟨wz, hwz⟩ : ∃ wz, wz = w9.alloc (.cells #[.int .i64 p, .slice A9 n9 c9] 25) := ⟨_, rfl⟩
      have hsz9 := hb9.size
      have HZ9 := Lib.hid (show RBox wz (w.heap.size + 1) from by rw [hwz]; exact (HZ3.out.step (lo := wr.heap.size) (by omega) hb9).step (lo := w9.heap.size) (by omega) (below_boxed _ _))
      have HB9 := Lib.hid (show Below w.heap.size w wz from by rw [hwz]; exact (HBw.out.trans (hb9.mono HBw.out.size)).alloc (by omega) _)
      have HO9 := Lib.hid (show OwnM wz (w.heap.size + 1 + 1) A9 c9 R9 lst from by rw [hwz]; exact (ho9.lower (lo' := w.heap.size + 1 + 1) (by omega)).alloc _)
      have HN9 := Lib.hid hn9
      have HWz := Lib.hid hwz
      have rz := HZ9.out
      rw [HWz.out] at rz
      have z0 := rz.c0
      have z1 := rz.c1
      have y0 := rz.f0
      have y1 := rz.f1
      clear hb9 ho9 hn9 hwz rz
      go_wp2
      rw [← HWz.out]
      obtain ⟨r0, r1⟩ := HZ9.out.read (.int .i64 p) (.slice A9 n9 c9)
      refine bodyPost_ret (v := .agg #[.int .i64 p, .slice A9 n9 c9]) (by simp [results, Try.results47, go_sem, r0, r1]) rfl ⟨⟨A9, n9, c9, R9, rfl, HN9.out, own_set2 HO9.out (by omega) _ _⟩, below_set2 HB9.out (by omega)⟩
end Go.Proofs.Ytdcegepkgcflpaa
