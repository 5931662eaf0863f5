/-
  DevelopFamily of both sides. Conditions: those of each theorem.
-/
import Derived.Test.YtdcegepkgcflpaaDevP
namespace Go.Proofs.Ytdcegepkgcflpaa
open Go.RowKit
set_option linter.unusedVariables false
set_option linter.unusedSimpArgs false

set_option maxRecDepth 100000 in
set_option maxHeartbeats 8000000 in
theorem specDevelopFamily_c (w : World) (n : Int) (hn64 : -9223372036854775808 ≤ n ∧ n ≤ 9223372036854775807) (A : Option Addr) (m c : Nat) (R : Spine) (sets : List (List Int)) (hr : RdM w A c R sets) (hm : sets.length = m) (hw : WfM sets) (hz : (m : Int) + (tot sets : Nat) ≤ 1048576) :
    Calls Try.prog 9 #[.int .i64 n, .slice A m c] w (PostDC w (dvP n sets) (dvX n sets) (dvC n sets)) := by
  clear hw hz
  have hzD := zeroD
  obtain ⟨wa, hwa⟩ : ∃ wa, wa = w.alloc (.cells #[.int .i64 0, .slice none 0 0] 25) := ⟨_, rfl⟩
  have hZa : RBox wa w.heap.size := by rw [hwa]; exact RBox.made w 25
  have hBa : Below w.heap.size w wa := by rw [hwa]; exact below_boxed w (.cells #[.int .i64 0, .slice none 0 0] 25)
  have hsa : w.heap.size + 1 ≤ wa.heap.size := by rw [hwa]; simp
  have HZa := Lib.hid hZa
  have HBa := Lib.hid hBa
  have hO := l13Ok_c wa n A m c R sets (hr.below hBa) hm
  rw [hwa] at hO
  rcases hd : baseB n sets with _ | _
  · rw [show dvP n sets = 0 from if_neg (by rw [hd]; simp), show dvX n sets = [] from if_neg (by rw [hd]; simp), show dvC n sets = 1 from if_neg (by rw [hd]; simp)]
    rw [hd] at hO
    have HO := Lib.hid hO
    have HWa := Lib.hid hwa
    clear hO hwa hZa hBa hr hm hd hn64
    go_enter Try.func9, Try.ntmps9
    go_wp2_with fail
    refine (HO.out).mono ?_
    rintro e w' ⟨rfl, q, rfl⟩
    rw [← HWa.out]
    have HZ2 := Lib.hid (HZa.out.drewN q)
    have HB2 := Lib.hid (below_drewN HBa.out q)
    have hs2 : w.heap.size + 1 ≤ (wa.drewN q).heap.size := hsa
    generalize wa.drewN q = w2 at *
    have rz := HZ2.out
    have z0 := rz.c0
    have z1 := rz.c1
    have y0 := rz.f0
    have y1 := rz.f1
    clear rz
    go_wp2
    obtain ⟨r0, r1⟩ := HZ2.out.read (.int .i64 0) (.slice none 0 0)
    refine bodyPost_ret (v := .tuple #[.agg #[.int .i64 0, .slice none 0 0], .int .i64 1]) (by simp [results, Try.results9, go_sem, r0, r1]) rfl ⟨⟨none, 0, 0, fun _ => (none, 0), rfl, rfl, OwnM.nil_ _ _ _⟩, by first | exact HB2.out | exact below_set2 HB2.out (by omega)⟩
  rw [hd] at hO
  have HO := Lib.hid hO
  have HWa := Lib.hid hwa
  have hb : BaseOk n sets := of_decide_eq_true hd
  have hm8 : m ≤ 8 := by have := hb.2.2; omega
  obtain ⟨N, rfl⟩ : ∃ N : Nat, n = (N : Int) := ⟨n.toNat, by have := hb.2.1.1; omega⟩
  have hN1 : 1 ≤ N := by have := hb.2.1.1; omega
  have hN : N ≤ 32 := by have := hb.2.1.2; omega
  rw [show dvP (N : Int) sets = mkP (N : Int) (dvL N sets m) from (if_pos hd).trans (by rw [hm]; rfl), show dvX (N : Int) sets = mkL (dvL N sets m) from (if_pos hd).trans (by rw [hm]; rfl), show dvC (N : Int) sets = mkC (dvL N sets m) from (if_pos hd).trans (by rw [hm]; rfl)]
  have HSet := Lib.hid (fun j (hj : j < sets.length) => dv_set hb hj)
  have HMem := Lib.hid (fun q (hq : q < (dvL N sets m).length) => (show blockB (row (dvL N sets m) q) (N : Int) = true ∧ (row (dvL N sets m) q).length ≤ 1048576 from by
    rw [row_eq hq]
    obtain ⟨j, b, hj, hbN, e⟩ := dvL_mem (List.getElem_mem hq)
    rw [e]
    obtain ⟨h1, h2, h3⟩ := dv_set hb (show j < sets.length by omega)
    have := mvL_len N (row sets j) 1 (b : Int)
    exact ⟨mvL_block h1 h2 b, by omega⟩))
  have HR := Lib.hid hr
  have HM := Lib.hid hm
  clear hO hwa hZa hBa hr hm hd hb hn64
  have HMv := Lib.hid (fun (W : World) (hb : Below w.heap.size w W) (k : Nat) (hk : k < sets.length) (b : Nat) (hb32 : b < N) => (show Calls Try.prog 33 #[.int .i64 (N : Int), .slice (R k).1 (row sets k).length (R k).2, .int .i64 1, .int .i64 (b : Int)] W (PostS W (mvL N (row sets k) 1 (b : Int))) from l13Move_c W N (R k).1 (row sets k).length (R k).2 (row sets k) ((HR.out.below hb).rows k hk) rfl (HSet.out k hk).1 1 b (by omega) (by omega)))
  go_enter Try.func9, Try.ntmps9
  go_wp2_with fail
  refine (HO.out).mono ?_
  rintro e w' ⟨rfl, q, rfl⟩
  rw [← HWa.out]
  have HZ2 := Lib.hid (HZa.out.drewN q)
  have HB2 := Lib.hid (below_drewN HBa.out q)
  have hs2 : w.heap.size + 1 ≤ (wa.drewN q).heap.size := hsa
  generalize wa.drewN q = w2 at *
  have HE0 := Lib.hid (OwnM.lit0 w2 (Nat.le_refl w2.heap.size) (fun _ => (none, 0)))
  have HEb := Lib.hid ((Below.refl w2.heap.size w2).alloc (Nat.le_refl _) (.cells #[] 50))
  go_wp2
  go_loopw [6, 7, 8] (fun o v _ wr => ∃ (k s : Nat) (A' : Option Addr) (c' : Nat) (R' : Spine), k ≤ m ∧ v = .int .i64 k ∧ o = .slice A' s c' ∧ Hid ((dvL N sets k).length = s) ∧ s ≤ 32 * k ∧ Hid (OwnM wr w2.heap.size A' c' R' (dvL N sets k)) ∧ Hid (Below w2.heap.size w2 wr)) (fun _ v _ _ => m - (intOf v).toNat)
  case atStart => exact ⟨0, 0, _, _, _, Nat.zero_le _, rfl, rfl, Lib.hid rfl, Nat.zero_le _, HE0, HEb⟩
  case round =>
    obtain ⟨k, s, A', c', R', hk, rfl, rfl, HS, hs, HO3, HB3⟩ := hrel
    have HBw := Lib.hid (HB2.out.trans (HB3.out.mono HB2.out.size))
    by_cases hkm : k < m
    · have hkx : k < sets.length := by rw [HM.out]; exact hkm
      have hk0 : (0 : Int) ≤ (k : Int) := by omega
      have hk2 : (k : Int) < (m : Int) := by omega
      obtain ⟨wo, rfl⟩ : ∃ wo, wo = wr := ⟨_, rfl⟩
      go_wp2
      go_loopw [6, 8] (fun o v wr => ∃ (b t : Nat) (A' : Option Addr) (c' : Nat) (R' : Spine), b ≤ N ∧ v = .int .i64 b ∧ o = .slice A' t c' ∧ Hid ((dvTo N sets k b).length = t) ∧ t ≤ 32 * k + b ∧ Hid (OwnM wr w2.heap.size A' c' R' (dvTo N sets k b)) ∧ Hid (Below w2.heap.size w2 wr)) (fun _ v _ => N - (intOf v).toNat)
      case atStart => exact ⟨0, s, _, _, _, Nat.zero_le _, rfl, rfl, Lib.hid (by rw [dvTo_zero]; exact HS.out), by omega, Lib.hid (by rw [dvTo_zero]; exact HO3.out), HB3⟩
      case round =>
        obtain ⟨b, t, A5, c5, R5, hb, rfl, rfl, HT, ht, HO5, HB5⟩ := hrel
        have hsz5 := HB5.out.size
        by_cases hbN : b < N
        · have HBw5 := Lib.hid (HB2.out.trans (HB5.out.mono HB2.out.size))
          obtain ⟨b0, off, e, hb0, hc⟩ := HR.out.at_ k hkx
          subst e
          have hcc := (HBw5.out.cell (p := ⟨b0, off + k, none⟩) hb0).trans hc
          clear hc
          have HMw := Lib.hid (HMv.out wr HBw5.out k hkx b hbN)
          have HSu := Lib.hid (dvTo_succ N sets k b)
          have HMl := Lib.hid (show (mvL N (row sets k) 1 (b : Int)).length ≤ 32 from by have := mvL_len N (row sets k) 1 (b : Int); have := (HSet.out k hkx).2.2; omega)
          generalize mvL N (row sets k) 1 (b : Int) = mv at *
          go_wp2_with fail
          refine (HMw.out).mono ?_
          rintro e w4 ⟨⟨A4, n4, c4, rfl, hn4, ho4⟩, hb4⟩
          have hB4 : Below w2.heap.size w2 w4 := HB5.out.trans (hb4.mono hsz5)
          have hz4 := hB4.size
          have HN4 := Lib.hid hn4
          have HX7 := Lib.hid ((ho4.lower (lo' := w2.heap.size) hsz5).alloc (.cells #[.slice A4 n4 c4] 50))
          have HE7 := Lib.hid ((HO5.out.below hb4).alloc (.cells #[.slice A4 n4 c4] 50))
          have HAp := Lib.hid (later_apart HO5.out ho4)
          have HB4 := Lib.hid (hB4.alloc hz4 (.cells #[.slice A4 n4 c4] 50))
          clear hn4 ho4 hb4 hB4
          go_wp2_with (at_builtin
                       refine wpM_append rfl _ _ rfl w2.heap.size _ _ _ R5 (dvTo N sets k b) A4 n4 c4 mv w4.heap.size rfl rfl HT.out HN4.out HE7.out HX7.out HAp.out (World.cell?_alloc_at _ _ _ _ rfl) (by omega) (by simp; omega) ?_
                       intro A8 c8 R8 w8 ho8 hg8 ha8)
          have HB8 := Lib.hid (HB4.out.trans (below_blkM HE7.out hg8 (Nat.le_refl _) (by simp; omega)))
          have HO8 := Lib.hid (show OwnM w8 w2.heap.size A8 c8 R8 (dvTo N sets k (b + 1)) from by rw [HSu.out]; exact ho8)
          have HT8 := Lib.hid (show (dvTo N sets k (b + 1)).length = t + 1 from by rw [HSu.out, List.length_append, HT.out]; rfl)
          clear ho8 hg8 ha8
          go_wp2
          go_roundw
          case rel => exact ⟨b + 1, t + 1, A8, c8, R8, by omega, by go_num, rfl, HT8, by omega, HO8, HB8⟩
          case measure => simp [intOf]; omega
        · obtain rfl : b = N := by omega
          have HS9 := Lib.hid (show (dvL b sets (k + 1)).length = t from by rw [← dvTo_all]; exact HT.out)
          have HO9 := Lib.hid (show OwnM wr w2.heap.size A5 c5 R5 (dvL b sets (k + 1)) from by rw [← dvTo_all]; exact HO5.out)
          go_wp2
          go_roundw
          case rel => exact ⟨k + 1, t, A5, c5, R5, by omega, by go_num, rfl, HS9, by omega, HO9, HB5⟩
          case measure => simp [intOf]; omega
    · obtain rfl : k = m := by omega
      have HMk := Lib.hid (l10Make_c wr (N : Int) A' s c' R' (dvL N sets k) HO3.out.rd HS.out (by omega) (fun q hq => (HMem.out q (by rw [HS.out]; exact hq)).2) (by omega) (by omega) (fun q hq => (HMem.out q (by rw [HS.out]; exact hq)).1))
      have hsz3 := HB3.out.size
      have HZ3 := Lib.hid (HZ2.out.step (lo := w2.heap.size) (by omega) HB3.out)
      go_wp2_with fail
      refine (HMk.out).mono ?_
      rintro e w9 ⟨⟨A9, n9, c9, R9, rfl, hn9, ho9⟩, hb9⟩
      have HZ9 := Lib.hid (HZ3.out.step (lo := wr.heap.size) (by omega) hb9)
      have HB9 := Lib.hid (HBw.out.trans (hb9.mono HBw.out.size))
      have HO9 := Lib.hid (show OwnM w9 (w.heap.size + 1) A9 c9 R9 (mkL (dvL N sets k)) from ho9.lower (by omega))
      have HN9 := Lib.hid hn9
      clear hb9 ho9 hn9
      generalize mkL (dvL N sets k) = lst at *
      generalize mkP (N : Int) (dvL N sets k) = ptz at *
      generalize mkC (dvL N sets k) = cdz at *
      have rz := HZ9.out
      have z0 := rz.c0
      have z1 := rz.c1
      have y0 := rz.f0
      have y1 := rz.f1
      clear rz
      go_wp2
      obtain ⟨r0, r1⟩ := HZ9.out.read (.int .i64 ptz) (.slice A9 n9 c9)
      refine bodyPost_ret (v := .tuple #[.agg #[.int .i64 ptz, .slice A9 n9 c9], .int .i64 cdz]) (by simp [results, Try.results9, go_sem, r0, r1]) rfl ⟨⟨A9, n9, c9, R9, rfl, HN9.out, own_set2 HO9.out (by omega) _ _⟩, below_set2 HB9.out (by omega)⟩

set_option maxRecDepth 100000 in
set_option maxHeartbeats 8000000 in
theorem implDevelopFamily_c (w : World) (n : Int) (hn64 : -9223372036854775808 ≤ n ∧ n ≤ 9223372036854775807) (A : Option Addr) (m c : Nat) (R : Spine) (sets : List (List Int)) (hr : RdM w A c R sets) (hm : sets.length = m) (hw : WfM sets) (hz : (m : Int) + (tot sets : Nat) ≤ 1048576) :
    Calls Try.prog 11 #[.int .i64 n, .slice A m c] w (PostDC w (dvP n sets) (dvX n sets) (dvC n sets)) := by
  clear hw hz
  have hzD := zeroD
  obtain ⟨wa, hwa⟩ : ∃ wa, wa = w.alloc (.cells #[.int .i64 0, .slice none 0 0] 25) := ⟨_, rfl⟩
  have hZa : RBox wa w.heap.size := by rw [hwa]; exact RBox.made w 25
  have hBa : Below w.heap.size w wa := by rw [hwa]; exact below_boxed w (.cells #[.int .i64 0, .slice none 0 0] 25)
  have hsa : w.heap.size + 1 ≤ wa.heap.size := by rw [hwa]; simp
  have HZa := Lib.hid hZa
  have HBa := Lib.hid hBa
  have hO := areBases_c wa n A m c R sets (hr.below hBa) hm
  rw [hwa] at hO
  rcases hd : baseB n sets with _ | _
  · rw [show dvP n sets = 0 from if_neg (by rw [hd]; simp), show dvX n sets = [] from if_neg (by rw [hd]; simp), show dvC n sets = 1 from if_neg (by rw [hd]; simp)]
    rw [hd] at hO
    have HO := Lib.hid hO
    have HWa := Lib.hid hwa
    clear hO hwa hZa hBa hr hm hd hn64
    go_enter Try.func11, Try.ntmps11
    go_wp2_with fail
    refine (HO.out).mono ?_
    rintro e w2 ⟨rfl, hb2⟩
    rw [← HWa.out] at hb2
    have HZ2 := Lib.hid (HZa.out.step (lo := wa.heap.size) (by omega) hb2)
    have HB2 := Lib.hid (HBa.out.trans (hb2.mono HBa.out.size))
    have hs2 : w.heap.size + 1 ≤ w2.heap.size := by have := hb2.size; omega
    clear hb2
    have rz := HZ2.out
    have z0 := rz.c0
    have z1 := rz.c1
    have y0 := rz.f0
    have y1 := rz.f1
    clear rz
    go_wp2
    obtain ⟨r0, r1⟩ := HZ2.out.read (.int .i64 0) (.slice none 0 0)
    refine bodyPost_ret (v := .tuple #[.agg #[.int .i64 0, .slice none 0 0], .int .i64 1]) (by simp [results, Try.results11, go_sem, r0, r1]) rfl ⟨⟨none, 0, 0, fun _ => (none, 0), rfl, rfl, OwnM.nil_ _ _ _⟩, by first | exact HB2.out | exact below_set2 HB2.out (by omega)⟩
  rw [hd] at hO
  have HO := Lib.hid hO
  have HWa := Lib.hid hwa
  have hb : BaseOk n sets := of_decide_eq_true hd
  have hm8 : m ≤ 8 := by have := hb.2.2; omega
  obtain ⟨N, rfl⟩ : ∃ N : Nat, n = (N : Int) := ⟨n.toNat, by have := hb.2.1.1; omega⟩
  have hN1 : 1 ≤ N := by have := hb.2.1.1; omega
  have hN : N ≤ 32 := by have := hb.2.1.2; omega
  rw [show dvP (N : Int) sets = mkP (N : Int) (dvL N sets m) from (if_pos hd).trans (by rw [hm]; rfl), show dvX (N : Int) sets = mkL (dvL N sets m) from (if_pos hd).trans (by rw [hm]; rfl), show dvC (N : Int) sets = mkC (dvL N sets m) from (if_pos hd).trans (by rw [hm]; rfl)]
  have HSet := Lib.hid (fun j (hj : j < sets.length) => dv_set hb hj)
  have HMem := Lib.hid (fun q (hq : q < (dvL N sets m).length) => (show blockB (row (dvL N sets m) q) (N : Int) = true ∧ (row (dvL N sets m) q).length ≤ 1048576 from by
    rw [row_eq hq]
    obtain ⟨j, b, hj, hbN, e⟩ := dvL_mem (List.getElem_mem hq)
    rw [e]
    obtain ⟨h1, h2, h3⟩ := dv_set hb (show j < sets.length by omega)
    have := mvL_len N (row sets j) 1 (b : Int)
    exact ⟨mvL_block h1 h2 b, by omega⟩))
  have HR := Lib.hid hr
  have HM := Lib.hid hm
  clear hO hwa hZa hBa hr hm hd hb hn64
  have HMv := Lib.hid (fun (W : World) (hb : Below w.heap.size w W) (k : Nat) (hk : k < sets.length) (b : Nat) (hb32 : b < N) => translate_c W N (R k).1 (row sets k).length (R k).2 (row sets k) ((HR.out.below hb).rows k hk) rfl (HSet.out k hk).1 b hb32)
  go_enter Try.func11, Try.ntmps11
  go_wp2_with fail
  refine (HO.out).mono ?_
  rintro e w2 ⟨rfl, hb2⟩
  rw [← HWa.out] at hb2
  have HZ2 := Lib.hid (HZa.out.step (lo := wa.heap.size) (by omega) hb2)
  have HB2 := Lib.hid (HBa.out.trans (hb2.mono HBa.out.size))
  have hs2 : w.heap.size + 1 ≤ w2.heap.size := by have := hb2.size; omega
  clear hb2
  have HE0 := Lib.hid (OwnM.nil_ w2 w2.heap.size (fun _ => (none, 0)))
  have HEb := Lib.hid (Below.refl w2.heap.size w2)
  go_wp2
  go_loopw [6, 17] (fun o v wr => ∃ (k s : Nat) (A' : Option Addr) (c' : Nat) (R' : Spine), k ≤ m ∧ v = .int .i64 k ∧ o = .slice A' s c' ∧ Hid ((dvL N sets k).length = s) ∧ s ≤ 32 * k ∧ Hid (OwnM wr w2.heap.size A' c' R' (dvL N sets k)) ∧ Hid (Below w2.heap.size w2 wr)) (fun _ v _ => m - (intOf v).toNat)
  case atStart => exact ⟨0, 0, _, _, _, Nat.zero_le _, rfl, rfl, Lib.hid rfl, Nat.zero_le _, HE0, HEb⟩
  case round =>
    obtain ⟨k, s, A', c', R', hk, rfl, rfl, HS, hs, HO3, HB3⟩ := hrel
    have HBw := Lib.hid (HB2.out.trans (HB3.out.mono HB2.out.size))
    by_cases hkm : k < m
    · have hkx : k < sets.length := by rw [HM.out]; exact hkm
      obtain ⟨b0, off, e, hb0, hc⟩ := HR.out.at_ k hkx
      subst e
      have hcc := (HBw.out.cell (p := ⟨b0, off + k, none⟩) hb0).trans hc
      clear hc
      have hk0 : (0 : Int) ≤ (k : Int) := by omega
      have hk2 : (k : Int) < (m : Int) := by omega
      obtain ⟨wo, rfl⟩ : ∃ wo, wo = wr := ⟨_, rfl⟩
      go_wp2
      go_loopw [6, 22] (fun o v wr => ∃ (b t : Nat) (A' : Option Addr) (c' : Nat) (R' : Spine), b ≤ N ∧ v = .int .i64 b ∧ o = .slice A' t c' ∧ Hid ((dvTo N sets k b).length = t) ∧ t ≤ 32 * k + b ∧ Hid (OwnM wr w2.heap.size A' c' R' (dvTo N sets k b)) ∧ Hid (Below w2.heap.size w2 wr)) (fun _ v _ => N - (intOf v).toNat)
      case atStart => exact ⟨0, s, _, _, _, Nat.zero_le _, rfl, rfl, Lib.hid (by rw [dvTo_zero]; exact HS.out), by omega, Lib.hid (by rw [dvTo_zero]; exact HO3.out), HB3⟩
      case round =>
        obtain ⟨b, t, A5, c5, R5, hb, rfl, rfl, HT, ht, HO5, HB5⟩ := hrel
        have hsz5 := HB5.out.size
        by_cases hbN : b < N
        · have HBw5 := Lib.hid (HB2.out.trans (HB5.out.mono HB2.out.size))
          have HMw := Lib.hid (HMv.out wr HBw5.out k hkx b hbN)
          have HSu := Lib.hid (dvTo_succ N sets k b)
          have HMl := Lib.hid (show (mvL N (row sets k) 1 (b : Int)).length ≤ 32 from by have := mvL_len N (row sets k) 1 (b : Int); have := (HSet.out k hkx).2.2; omega)
          generalize mvL N (row sets k) 1 (b : Int) = mv at *
          go_wp2_with fail
          refine (HMw.out).mono ?_
          rintro e w4 ⟨⟨A4, n4, c4, rfl, hn4, ho4⟩, hb4⟩
          have hB4 : Below w2.heap.size w2 w4 := HB5.out.trans (hb4.mono hsz5)
          have hz4 := hB4.size
          have HN4 := Lib.hid hn4
          have HX7 := Lib.hid ((ho4.lower (lo' := w2.heap.size) hsz5).alloc (.cells #[.slice A4 n4 c4] 50))
          have HE7 := Lib.hid ((HO5.out.below hb4).alloc (.cells #[.slice A4 n4 c4] 50))
          have HAp := Lib.hid (later_apart HO5.out ho4)
          have HB4 := Lib.hid (hB4.alloc hz4 (.cells #[.slice A4 n4 c4] 50))
          clear hn4 ho4 hb4 hB4
          go_wp2_with (at_builtin
                       refine wpM_append rfl _ _ rfl w2.heap.size _ _ _ R5 (dvTo N sets k b) A4 n4 c4 mv w4.heap.size rfl rfl HT.out HN4.out HE7.out HX7.out HAp.out (World.cell?_alloc_at _ _ _ _ rfl) (by omega) (by simp; omega) ?_
                       intro A8 c8 R8 w8 ho8 hg8 ha8)
          have HB8 := Lib.hid (HB4.out.trans (below_blkM HE7.out hg8 (Nat.le_refl _) (by simp; omega)))
          have HO8 := Lib.hid (show OwnM w8 w2.heap.size A8 c8 R8 (dvTo N sets k (b + 1)) from by rw [HSu.out]; exact ho8)
          have HT8 := Lib.hid (show (dvTo N sets k (b + 1)).length = t + 1 from by rw [HSu.out, List.length_append, HT.out]; rfl)
          clear ho8 hg8 ha8
          go_wp2
          go_roundw
          case rel => exact ⟨b + 1, t + 1, A8, c8, R8, by omega, by go_num, rfl, HT8, by omega, HO8, HB8⟩
          case measure => simp [intOf]; omega
        · obtain rfl : b = N := by omega
          have HS9 := Lib.hid (show (dvL b sets (k + 1)).length = t from by rw [← dvTo_all]; exact HT.out)
          have HO9 := Lib.hid (show OwnM wr w2.heap.size A5 c5 R5 (dvL b sets (k + 1)) from by rw [← dvTo_all]; exact HO5.out)
          go_wp2
          go_roundw
          case rel => exact ⟨k + 1, t, A5, c5, R5, by omega, by go_num, rfl, HS9, by omega, HO9, HB5⟩
          case measure => simp [intOf]; omega
    · obtain rfl : k = m := by omega
      have HMk := Lib.hid (sorted_c wr (N : Int) A' s c' R' (dvL N sets k) HO3.out.rd HS.out (by omega) (fun q hq => (HMem.out q (by rw [HS.out]; exact hq)).2))
      have hsz3 := HB3.out.size
      have HZ3 := Lib.hid (HZ2.out.step (lo := w2.heap.size) (by omega) HB3.out)
      go_wp2_with fail
      refine (HMk.out).mono ?_
      rintro e w9 ⟨⟨A9, n9, c9, R9, rfl, hn9, ho9⟩, hb9⟩
      have HZ9 := Lib.hid (HZ3.out.step (lo := wr.heap.size) (by omega) hb9)
      have HB9 := Lib.hid (HBw.out.trans (hb9.mono HBw.out.size))
      have HO9 := Lib.hid (show OwnM w9 (w.heap.size + 1) A9 c9 R9 (mkL (dvL N sets k)) from ho9.lower (by omega))
      have HN9 := Lib.hid hn9
      clear hb9 ho9 hn9
      generalize mkL (dvL N sets k) = lst at *
      generalize mkP (N : Int) (dvL N sets k) = ptz at *
      generalize mkC (dvL N sets k) = cdz at *
      have rz := HZ9.out
      have z0 := rz.c0
      have z1 := rz.c1
      have y0 := rz.f0
      have y1 := rz.f1
      clear rz
      go_wp2
      obtain ⟨r0, r1⟩ := HZ9.out.read (.int .i64 ptz) (.slice A9 n9 c9)
      refine bodyPost_ret (v := .tuple #[.agg #[.int .i64 ptz, .slice A9 n9 c9], .int .i64 cdz]) (by simp [results, Try.results11, go_sem, r0, r1]) rfl ⟨⟨A9, n9, c9, R9, rfl, HN9.out, own_set2 HO9.out (by omega) _ _⟩, below_set2 HB9.out (by omega)⟩
end Go.Proofs.Ytdcegepkgcflpaa
