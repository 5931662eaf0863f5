/-
  l10Part of the reference; DerivedDesign and ResidualDesign of both sides. Conditions: those of each theorem.
-/
import Derived.Test.YtdneldecedbepaaPart
namespace Go.Proofs.Ytdneldecedbepaa
open Go.RowKit
set_option linter.unusedVariables false
set_option linter.unusedSimpArgs false

set_option maxRecDepth 100000 in
set_option maxHeartbeats 8000000 in
theorem l10Part_c (w : World) (g : Nat) (p j : Int) (A B : Option Addr) (n c m d : Nat) (R : Spine) (xss : List (List Int)) (pts : List Int) (hx : BoxD w g p A n c) (hr : RdM w A c R xss) (hn : xss.length = n) (hn128 : n ≤ 128) (hy : RdI w B d pts) (hm : pts.length = m) (hset : ∀ k, k < xss.length → setB (row xss k) 32 = true) (hps : setB pts 32 = true) :
    Calls Try.prog 54 #[.pointer (some ⟨g, 0, none⟩), .int .i64 j, .slice B m d] w (PostDC w (ptP xss j pts) (ptX xss j pts) (ptC xss j pts)) := by
  have hzD := zeroD
  obtain ⟨wa, hwa⟩ : ∃ wa, wa = w.alloc (.cells #[.int .i64 0, .slice none 0 0] 26) := ⟨_, rfl⟩
  have hZa : RBox wa w.heap.size := by rw [hwa]; exact RBox.made w 26
  have hBa : Below w.heap.size w wa := by rw [hwa]; exact below_boxed w (.cells #[.int .i64 0, .slice none 0 0] 26)
  have hsa : w.heap.size + 1 ≤ wa.heap.size := by rw [hwa]; simp
  have HZa := Lib.hid hZa
  have HBa := Lib.hid hBa
  have hm32 : m ≤ 32 := by have := setB_len (P := 32) hps; omega
  obtain ⟨bad, hbad⟩ : ∃ bad : Prop, bad = ptBad xss j pts := ⟨_, rfl⟩
  have HBad := Lib.hid (show bad ↔ pts.length = 0 ∨ ∃ i, i < xss.length ∧ ((i : Int) ≠ j ∧ (plcL (row xss i) pts).length = 0) from by rw [hbad]; exact Iff.rfl)
  have HRes : (bad → ptP xss j pts = 0 ∧ ptX xss j pts = [] ∧ ptC xss j pts = 6) ∧ (¬ bad → ptP xss j pts = mkP (m : Int) (ptR xss j pts n) ∧ ptX xss j pts = mkL (ptR xss j pts n) ∧ ptC xss j pts = mkC (ptR xss j pts n)) := by
    rw [hbad, ← hm, ← hn]
    refine ⟨fun h => ?_, fun h => ?_⟩
    · unfold ptP ptX ptC; exact ⟨if_pos h, if_pos h, if_pos h⟩
    · unfold ptP ptX ptC; exact ⟨if_neg h, if_neg h, if_neg h⟩
  have HRes := Lib.hid HRes
  have HBlk := Lib.hid (fun (hf : ¬ bad) q (hq : q < (ptR xss j pts n).length) => (show blockB (row (ptR xss j pts n) q) (m : Int) = true from by
    have hq' : q < (ptR xss j pts xss.length).length := by rw [hn]; exact hq
    have := pt_blocks (xss := xss) (j := j) (pts := pts) (by omega) (by rw [← hbad]; exact hf) hq'
    rwa [hn, hm] at this))
  have HLen := Lib.hid (fun k q (hq : q < (ptR xss j pts k).length) => (show (row (ptR xss j pts k) q).length ≤ 1048576 from by
    obtain ⟨i, _, _, e⟩ := pt_row_mem hq
    rw [e]
    have := plcL_len (row xss i) pts
    omega))
  have HR := Lib.hid hr
  have HN := Lib.hid hn
  have HY := Lib.hid hy
  have HM := Lib.hid hm
  have HSet := Lib.hid hset
  have HPs := Lib.hid hps
  have HWa := Lib.hid hwa
  generalize ptP xss j pts = rP at *
  generalize ptX xss j pts = rX at *
  generalize ptC xss j pts = rC at *
  have HX := Lib.hid hx
  have hgl := hx.lt
  clear hwa hZa hBa hr hn hy hps hset hbad hx
  have HE0 := Lib.hid (OwnM.lit0 wa (Nat.le_refl wa.heap.size) (fun _ => (none, 0)))
  have HEb := Lib.hid ((Below.refl wa.heap.size wa).alloc (Nat.le_refl _) (.cells #[] 37))
  by_cases hm0 : m = 0
  · subst hm0
    obtain ⟨e1, e2, e3⟩ := HRes.out.1 (HBad.out.2 (Or.inl HM.out))
    subst e1 e2 e3
    have HZx := HZa
    have HBx := HBa
    rw [HWa.out] at HZx HBx
    go_enter Try.func54, Try.ntmps54
    have rz := HZx.out
    have z0 := rz.c0
    have z1 := rz.c1
    have y0 := rz.f0
    have y1 := rz.f1
    clear rz
    go_wp2
    obtain ⟨r0, r1⟩ := HZx.out.read (.int .i64 0) (.slice none 0 0)
    refine bodyPost_ret (v := .tuple #[.agg #[.int .i64 0, .slice none 0 0], .int .i64 6]) (by simp [results, Try.results54, go_sem, r0, r1]) rfl ⟨⟨none, 0, 0, fun _ => (none, 0), rfl, rfl, OwnM.nil_ _ _ _⟩, by first | exact HBx.out | exact below_set2 HBx.out (by omega)⟩
  · have hd0 : ((m : Int) == 0) = false := by simp; omega
    rw [HWa.out] at HE0 HEb
    have hse : wa.heap.size = w.heap.size + 1 := by rw [HWa.out]; simp
    go_enter Try.func54, Try.ntmps54
    go_wp2
    rw [← HWa.out] at HE0 HEb ⊢
    have HE1 := Lib.hid (show OwnM (wa.alloc (.cells #[] 37)) wa.heap.size (some ⟨w.heap.size + 1, 0, none⟩) 0 (fun _ => (none, 0)) [] from by rw [← hse]; exact HE0.out)
    clear hse
    go_loopw [8, 9] (fun o v wr => ∃ (k s : Nat) (A' : Option Addr) (c' : Nat) (R' : Spine), k ≤ n ∧ v = .int .i64 k ∧ o = .slice A' s c' ∧ Hid ((ptR xss j pts k).length = s) ∧ s ≤ k ∧ Hid (∀ i, i < k → (i : Int) ≠ j → (plcL (row xss i) pts).length ≠ 0) ∧ Hid (OwnM wr wa.heap.size A' c' R' (ptR xss j pts k)) ∧ Hid (Below wa.heap.size wa wr)) (fun _ v _ => n - (intOf v).toNat)
    case atStart => exact ⟨0, 0, _, _, _, Nat.zero_le _, rfl, rfl, Lib.hid rfl, Nat.le_refl _, Lib.hid (fun i hi => absurd hi (by omega)), HE1, HEb⟩
    case round =>
      obtain ⟨k, s, A', c', R', hk, rfl, rfl, HS, hsk, HNo, HO3, HB3⟩ := hrel
      have HBw := Lib.hid (HBa.out.trans (HB3.out.mono HBa.out.size))
      have hx3 := HX.out.step hgl HBw.out
      have hc0 := hx3.c0
      have hc1 := hx3.c1
      have hsz3 := HB3.out.size
      clear hx3
      by_cases hlt : k < n
      · have hkx : k < xss.length := by rw [HN.out]; exact hlt
        obtain ⟨b, off, e, hb, hc⟩ := HR.out.at_ k hkx
        have hcc := (HBw.out.cell (p := ⟨b, off + k, none⟩) hb).trans hc
        subst e
        have hk1 : (0 : Int) ≤ (k : Int) := by omega
        have hk2 : (k : Int) < (n : Int) := by omega
        clear hc
        by_cases hj : (k : Int) = j
        · have hjd : ((k : Int) == j) = true := by simp [hj]
          have HSu := Lib.hid (ptR_hit (xss := xss) (pts := pts) hj)
          have HNo' := Lib.hid (show ∀ i, i < k + 1 → (i : Int) ≠ j → (plcL (row xss i) pts).length ≠ 0 from fun i hi h => HNo.out i (by
            by_cases e : i = k
            · subst e; exact absurd hj h
            · omega) h)
          clear hj
          go_wp2
          go_roundw
          case rel => exact ⟨k + 1, s, A', c', R', by omega, by go_num, rfl, Lib.hid (by rw [HSu.out]; exact HS.out), by omega, HNo', Lib.hid (by rw [HSu.out]; exact HO3.out), HB3⟩
          case measure => simp [intOf]; omega
        · have hjd : ((k : Int) == j) = false := by simp [hj]
          have HSu := Lib.hid (ptR_miss (xss := xss) (pts := pts) hj)
          have HPl := Lib.hid (l10Places_c wr (R k).1 B (row xss k).length m (R k).2 d (row xss k) pts ((HR.out.below HBw.out).rows k hkx) rfl (HY.out.below HBw.out) HM.out (by omega))
          have HPn := Lib.hid (plcL_len (row xss k) pts)
          have HJ := Lib.hid hj
          clear hj
          go_wp2_with fail
          refine (HPl.out).mono ?_
          rintro e w4 ⟨⟨A4, n4, c4, rfl, hn4, ho4⟩, hb4⟩
          have hn4k : n4 ≤ 32 := by have := HPn.out; have := HM.out; omega
          have HN4 := Lib.hid hn4
          have HO4 := Lib.hid ho4
          have HM4 := Lib.hid (HO3.out.below hb4)
          have HB4 := Lib.hid (HB3.out.trans (hb4.mono hsz3))
          have hsz4 := HB4.out.size
          clear hn4 ho4 hcc hc0 hc1
          by_cases hq0 : n4 = 0
          · subst hq0
            obtain ⟨e1, e2, e3⟩ := HRes.out.1 (HBad.out.2 (Or.inr ⟨k, hkx, HJ.out, HN4.out⟩))
            subst e1 e2 e3
            have HZx := Lib.hid (HZa.out.step (lo := wa.heap.size) (by omega) HB4.out)
            have HBwx := Lib.hid (HBa.out.trans (HB4.out.mono HBa.out.size))
            have rz := HZx.out
            have z0 := rz.c0
            have z1 := rz.c1
            have y0 := rz.f0
            have y1 := rz.f1
            clear rz
            go_wp2
            obtain ⟨r0, r1⟩ := HZx.out.read (.int .i64 0) (.slice none 0 0)
            refine bodyPost_ret (v := .tuple #[.agg #[.int .i64 0, .slice none 0 0], .int .i64 6]) (by simp [results, Try.results54, go_sem, r0, r1]) rfl ⟨⟨none, 0, 0, fun _ => (none, 0), rfl, rfl, OwnM.nil_ _ _ _⟩, by first | exact HBwx.out | exact below_set2 HBwx.out (by omega)⟩
          · have hdn0 : ((n4 : Int) == 0) = false := by simp; omega
            have HNo' := Lib.hid (show ∀ i, i < k + 1 → (i : Int) ≠ j → (plcL (row xss i) pts).length ≠ 0 from fun i hi h => by
              by_cases e : i = k
              · subst e; have := HN4.out; omega
              · exact HNo.out i (by omega) h)
            have HAp := Lib.hid (later_apart HO3.out HO4.out)
            have HE7 := Lib.hid (HM4.out.alloc (.cells #[.slice A4 n4 c4] 37))
            have HX7 := Lib.hid ((HO4.out.lower (lo' := wa.heap.size) hsz3).alloc (.cells #[.slice A4 n4 c4] 37))
            go_wp2_with (at_builtin
                         refine wpM_append rfl _ _ rfl wa.heap.size _ _ _ R' (ptR xss j pts k) A4 n4 c4 (plcL (row xss k) pts) w4.heap.size rfl rfl HS.out HN4.out HE7.out HX7.out HAp.out (World.cell?_alloc_at _ _ _ _ rfl) (by omega) (by simp; omega) ?_
                         intro A8 c8 R8 w8 ho8 hg8 ha8)
            have HB8 := Lib.hid ((HB4.out.alloc hsz4 (.cells #[.slice A4 n4 c4] 37)).trans (below_blkM HE7.out hg8 (Nat.le_refl _) (by simp; omega)))
            have HO8 := Lib.hid (show OwnM w8 wa.heap.size A8 c8 R8 (ptR xss j pts (k + 1)) from by rw [HSu.out]; exact ho8)
            have HS8 := Lib.hid (show (ptR xss j pts (k + 1)).length = s + 1 from by rw [HSu.out, List.length_append, HS.out]; rfl)
            clear ho8 hg8 ha8
            go_wp2
            go_roundw
            case rel => exact ⟨k + 1, s + 1, A8, c8, R8, by omega, by go_num, rfl, HS8, by omega, HNo', HO8, HB8⟩
            case measure => simp [intOf]; omega
      · obtain rfl : k = n := by omega
        have hnf : ¬ bad := fun h => by
          rcases HBad.out.1 h with h | ⟨i, hi, hj, h⟩
          · have := HM.out; omega
          · exact HNo.out i (by rw [← HN.out]; exact hi) hj h
        obtain ⟨e1, e2, e3⟩ := HRes.out.2 hnf
        subst e1 e2 e3
        have HMk := Lib.hid (l10Make_c wr (m : Int) A' s c' R' (ptR xss j pts k) HO3.out.rd HS.out (by omega) (fun q hq => HLen.out k q (by rw [HS.out]; exact hq)) (by omega) (by omega) (fun q hq => HBlk.out hnf q (by rw [HS.out]; exact hq)))
        have HZ3 := Lib.hid (HZa.out.step (lo := wa.heap.size) (by omega) HB3.out)
        go_wp2_with fail
        refine (HMk.out).mono ?_
        rintro e w9 ⟨⟨A9, n9, c9, R9, rfl, hn9, ho9⟩, hb9⟩
        have HZ9 := Lib.hid (HZ3.out.step (lo := wr.heap.size) (by omega) hb9)
        have HB9 := Lib.hid (HBw.out.trans (hb9.mono HBw.out.size))
        have HO9 := Lib.hid (show OwnM w9 (w.heap.size + 1) A9 c9 R9 (mkL (ptR xss j pts k)) from ho9.lower (by omega))
        have HN9 := Lib.hid hn9
        clear hb9 ho9 hn9
        generalize mkL (ptR xss j pts k) = lst at *
        generalize mkP (m : Int) (ptR xss j pts k) = ptz at *
        generalize mkC (ptR xss j pts k) = cdz at *
        have rz := HZ9.out
        have z0 := rz.c0
        have z1 := rz.c1
        have y0 := rz.f0
        have y1 := rz.f1
        clear rz
        go_wp2
        obtain ⟨r0, r1⟩ := HZ9.out.read (.int .i64 ptz) (.slice A9 n9 c9)
        refine bodyPost_ret (v := .tuple #[.agg #[.int .i64 ptz, .slice A9 n9 c9], .int .i64 cdz]) (by simp [results, Try.results54, go_sem, r0, r1]) rfl ⟨⟨A9, n9, c9, R9, rfl, HN9.out, own_set2 HO9.out (by omega) _ _⟩, below_set2 HB9.out (by omega)⟩
end Go.Proofs.Ytdneldecedbepaa
