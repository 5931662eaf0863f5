/-
  DesignOfHadamard of the program. Conditions: those of each theorem.
-/
import Derived.Test.YtdneldecedbepaaDoH
namespace Go.Proofs.Ytdneldecedbepaa
open Go.RowKit
set_option linter.unusedVariables false
set_option linter.unusedSimpArgs false

theorem RdM.open0 {w : World} {A : Option Addr} {c : Nat} {R : Spine} {h : List (List Int)} (hr : RdM w A c R h) (hn : 0 < h.length) :
    ∃ b off, A = some ⟨b, off, none⟩ ∧ b < w.heap.size ∧ ∀ k, k < h.length → w.cell? ⟨b, off + k, none⟩ = some (.slice (R k).1 (row h k).length (R k).2) := by
  obtain ⟨b, off, rfl, hb, _⟩ := hr.at_ 0 hn
  refine ⟨b, off, rfl, hb, fun k hk => ?_⟩
  obtain ⟨b', off', e, _, hc⟩ := hr.at_ k hk
  injection e with e
  injection e with e1 e2
  subst e1 e2
  exact hc

set_option maxRecDepth 100000 in
set_option maxHeartbeats 8000000 in
theorem implDesignOfHadamard_c (w : World) (A : Option Addr) (n c : Nat) (R : Spine) (h : List (List Int)) (hr : RdM w A c R h) (hn : h.length = n) (hw : WfM h) (hz : (n : Int) + (tot h : Nat) ≤ 1048576) :
    Calls Try.prog 35 #[.slice A n c] w (PostDC w (dhP h) (dhX h) (dhOk h)) := by
  have hz20 : n ≤ 1048576 := by omega
  clear hw hz
  have hzD := zeroD
  obtain ⟨wa, hwa⟩ : ∃ wa, wa = w.alloc (.cells #[.int .i64 0, .slice none 0 0] 26) := ⟨_, rfl⟩
  have hZa : RBox wa w.heap.size := by rw [hwa]; exact RBox.made w 26
  have hBa : Below w.heap.size w wa := by rw [hwa]; exact below_boxed w (.cells #[.int .i64 0, .slice none 0 0] 26)
  have hsa : w.heap.size + 1 ≤ wa.heap.size := by rw [hwa]; simp
  have HZa := Lib.hid hZa
  have HBa := Lib.hid hBa
  have hO := implValid_c wa A n c R h (hr.below hBa) hn hz20
  rw [hwa] at hO
  rcases hv : validB h with _ | _
  · have h1 : dhOk h = 1 := if_neg (by rw [hv]; simp)
    rw [show dhP h = 0 from if_neg (by omega), show dhX h = [] from if_neg (by omega), h1]
    rw [hv] at hO
    have HO := Lib.hid hO
    have HWa := Lib.hid hwa
    clear hO hwa hZa hBa hr hn h1 hv
    go_enter Try.func35, Try.ntmps35
    go_wp2_with fail
    refine (HO.out).mono ?_
    rintro e w2 ⟨rfl, hb2⟩
    rw [← HWa.out] at hb2
    have HZ2 := Lib.hid (HZa.out.step (lo := wa.heap.size) (by omega) hb2)
    have HB2 := Lib.hid (HBa.out.trans (hb2.mono HBa.out.size))
    clear hb2
    have rz := HZ2.out
    have z0 := rz.c0
    have z1 := rz.c1
    have y0 := rz.f0
    have y1 := rz.f1
    clear rz
    go_wp2
    obtain ⟨r0, r1⟩ := HZ2.out.read (.int .i64 0) (.slice none 0 0)
    refine bodyPost_ret (v := .tuple #[.agg #[.int .i64 0, .slice none 0 0], .int .i64 1]) (by simp [results, Try.results35, go_sem, r0, r1]) rfl ⟨⟨none, 0, 0, fun _ => (none, 0), rfl, rfl, OwnM.nil_ _ _ _⟩, by first | exact HB2.out | exact below_set2 HB2.out (by omega)⟩
  rw [hv] at hO
  have HO := Lib.hid hO
  have HWa := Lib.hid hwa
  obtain ⟨hsq, hpm, hn1, hn32⟩ := (validB_iff.1 hv).sq hn
  by_cases h4 : n < 4
  · have h1 : dhOk h = 6 := (if_pos hv).trans (if_pos (by omega))
    rw [show dhP h = 0 from if_neg (by omega), show dhX h = [] from if_neg (by omega), h1]
    have hd4 : decide ((n : Int) < 4) = true := by simp; omega
    have hd5 : (n : Int) < 4 := by omega
    clear hO hwa hZa hBa hr hn h1 hv hsq hpm h4
    go_enter Try.func35, Try.ntmps35
    go_wp2_with fail
    refine (HO.out).mono ?_
    rintro e w2 ⟨rfl, hb2⟩
    rw [← HWa.out] at hb2
    have HZ2 := Lib.hid (HZa.out.step (lo := wa.heap.size) (by omega) hb2)
    have HB2 := Lib.hid (HBa.out.trans (hb2.mono HBa.out.size))
    clear hb2
    have rz := HZ2.out
    have z0 := rz.c0
    have z1 := rz.c1
    have y0 := rz.f0
    have y1 := rz.f1
    clear rz
    go_wp2
    obtain ⟨r0, r1⟩ := HZ2.out.read (.int .i64 0) (.slice none 0 0)
    refine bodyPost_ret (v := .tuple #[.agg #[.int .i64 0, .slice none 0 0], .int .i64 6]) (by simp [results, Try.results35, go_sem, r0, r1]) rfl ⟨⟨none, 0, 0, fun _ => (none, 0), rfl, rfl, OwnM.nil_ _ _ _⟩, by first | exact HB2.out | exact below_set2 HB2.out (by omega)⟩
  have h0 : dhOk h = 0 := (if_pos hv).trans (if_neg (by omega))
  have hd4 : decide ((n : Int) < 4) = false := by simp; omega
  have hvh := validB_iff.1 hv
  have HNo := Lib.hid (fun (W : World) (hb : Below w.heap.size w W) => implNormal_c W A n c R (entry h) (by rw [← hsq]; exact hr.below hb) hpm (by omega))
  rw [show dhP h = (n : Int) - 1 from (if_pos h0).trans (by rw [hn]), show dhX h = sortLL (doR (normF (entry h)) (n - 1) (n - 1)) from (if_pos h0).trans (by unfold dhR; rw [hn]), h0]
  have hblk : ∀ q, q < n - 1 → blockB (row (doR (normF (entry h)) (n - 1) (n - 1)) q) ((n : Int) - 1) = true := fun q hq => by
    have := dhR_blocks hvh (by omega) (k := q) (by omega)
    unfold dhR at this
    rwa [hn] at this
  have hlen : ∀ q, q < n - 1 → (row (doR (normF (entry h)) (n - 1) (n - 1)) q).length ≤ 1048576 := fun q hq => by
    rw [doR_row hq]
    have := doTo_len (normF (entry h)) (q + 1) (n - 1)
    omega
  have hpn := hpm.norm hn1
  obtain ⟨g, hg⟩ : ∃ g, g = normF (entry h) := ⟨_, rfl⟩
  rw [← hg] at hblk hlen hpn HNo ⊢
  have HBlk := Lib.hid hblk
  have HLen := Lib.hid hlen
  have HPm := Lib.hid hpn
  clear hO hwa hZa hBa hr hn h0 hv hsq hpm h4 hvh hblk hlen hpn hg
  obtain ⟨rX, hrX⟩ : ∃ rX, rX = sortLL (doR g (n - 1) (n - 1)) := ⟨_, rfl⟩
  obtain ⟨rP, hrP⟩ : ∃ rP, rP = (n : Int) - 1 := ⟨_, rfl⟩
  rw [← hrX, ← hrP]
  have HrX := Lib.hid hrX
  have HrP := Lib.hid hrP
  clear hrX hrP
  go_enter Try.func35, Try.ntmps35
  go_wp2_with fail
  refine (HO.out).mono ?_
  rintro e w2 ⟨rfl, hb2⟩
  rw [← HWa.out] at hb2
  have HZ2 := Lib.hid (HZa.out.step (lo := wa.heap.size) (by omega) hb2)
  have HB2 := Lib.hid (HBa.out.trans (hb2.mono HBa.out.size))
  have hs2 : w.heap.size + 1 ≤ w2.heap.size := by have := hb2.size; omega
  have HNw := Lib.hid (HNo.out w2 HB2.out)
  clear hb2
  go_wp2_with fail
  refine (HNw.out).mono ?_
  rintro e w4 ⟨⟨A4, n4, c4, R4, rfl, hn4, ho4⟩, hb4⟩
  obtain rfl : n = n4 := by rw [← hn4, length_sqTo]
  have HO4 := Lib.hid ho4
  have HZ4 := Lib.hid (HZ2.out.step (lo := w2.heap.size) (by omega) hb4)
  have HB4 := Lib.hid (HB2.out.trans (hb4.mono HB2.out.size))
  have hs4 : w.heap.size + 1 ≤ w4.heap.size := by have := hb4.size; omega
  clear hb4 ho4 hn4
  obtain ⟨N, rfl⟩ : ∃ N, n = N + 1 := ⟨n - 1, by omega⟩
  have HBlk' := Lib.hid (show ∀ q, q < N → blockB (row (doR g N N) q) (((N + 1 : Nat) : Int) - 1) = true from HBlk.out)
  have HLen' := Lib.hid (show ∀ q, q < N → (row (doR g N N) q).length ≤ 1048576 from HLen.out)
  clear HBlk HLen
  obtain ⟨b, off, e, hb, hcl⟩ := HO4.out.rd.open0 (by rw [length_sqTo]; omega)
  subst e
  have hcl' : ∀ k, k < N + 1 → w4.cell? ⟨b, off + k, none⟩ = some (.slice (R4 k).1 (N + 1) (R4 k).2) := fun k hk => by
    have := hcl k (by rw [length_sqTo]; exact hk)
    rwa [row_sqTo hk, length_rowTo] at this
  have hrw : ∀ k, k < N + 1 → RdI w4 (R4 k).1 (R4 k).2 (rowTo g k (N + 1)) := fun k hk => by
    have := HO4.out.rd.rows k (by rw [length_sqTo]; exact hk)
    rwa [row_sqTo hk] at this
  have hle4 : N + 1 ≤ c4 := by have := HO4.out.rd.le; rwa [length_sqTo] at this
  have hN3 : 3 ≤ N := by have := of_decide_eq_false hd4; omega
  have hc41 : c4 ≠ 1 := by omega
  have HCl := Lib.hid hcl'
  have HRw := Lib.hid hrw
  have HE0 := Lib.hid (OwnM.nil_ w4 w4.heap.size (fun _ => (none, 0)))
  have HEb := Lib.hid (Below.refl w4.heap.size w4)
  clear hcl hcl' hrw
  go_wp2
  go_loopw [4, 22] (fun o v wr => ∃ (s : Nat) (A' : Option Addr) (c' : Nat) (R' : Spine), s ≤ N ∧ v = .int .i64 s ∧ o = .slice A' s c' ∧ Hid (OwnM wr w4.heap.size A' c' R' (doR g N s)) ∧ Hid (Below w4.heap.size w4 wr)) (fun _ v _ => N - (intOf v).toNat)
  case atStart => exact ⟨0, _, _, _, Nat.zero_le _, rfl, rfl, HE0, HEb⟩
  case round =>
    obtain ⟨s, A', c', R', hs, rfl, rfl, HO3, HB3⟩ := hrel
    have hsz3 := HB3.out.size
    by_cases hlt : s < N
    · have hc := HCl.out (s + 1) (by omega)
      have hrows := HRw.out (s + 1) (by omega)
      have hle2 : N + 1 ≤ (R4 (s + 1)).2 := by have := hrows.le; rwa [length_rowTo] at this
      obtain ⟨b2, off2, e2, hb2, hc2⟩ := hrows.opened (by rw [length_rowTo]; omega)
      rw [e2] at hc
      have hcc := (HB3.out.cell (p := ⟨b, off + (s + 1), none⟩) hb).trans hc
      rw [show off + (s + 1) = off + 1 + s by omega] at hcc
      have HC2 := Lib.hid (show ∀ k, k < N + 1 → w4.cell? ⟨b2, off2 + k, none⟩ = some (.int .i64 (g (s + 1) k)) from fun k hk => by
        have := hc2 k (by rw [length_rowTo]; exact hk)
        rwa [nth_rowTo hk] at this)
      generalize (R4 (s + 1)).2 = C2 at *
      have hc42 : C2 ≠ 1 := by omega
      have HI0 := Lib.hid (OwnI.nil_ wr wr.heap.size)
      have HIb := Lib.hid (Below.refl wr.heap.size wr)
      have HT0 := Lib.hid (show (doTo g (s + 1) 0).length = 0 from rfl)
      have hs0 : (0 : Int) ≤ (s : Int) := by omega
      have hs2 : (s : Int) < (N : Int) := by omega
      clear hc hc2 hrows e2
      obtain ⟨wo, rfl⟩ : ∃ wo, wo = wr := ⟨_, rfl⟩
      go_wp2
      go_loopw [7, 29] (fun o v wr => ∃ (q t : Nat) (A5 : Option Addr) (c5 : Nat), q ≤ N ∧ v = .int .i64 q ∧ o = .slice A5 t c5 ∧ t ≤ N ∧ Hid ((doTo g (s + 1) q).length = t) ∧ Hid (OwnI wr wo.heap.size A5 c5 (doTo g (s + 1) q)) ∧ Hid (Below wo.heap.size wo wr)) (fun _ v _ => N - (intOf v).toNat)
      case atStart => exact ⟨0, 0, _, _, Nat.zero_le _, rfl, rfl, Nat.zero_le _, HT0, HI0, HIb⟩
      case round =>
        obtain ⟨q, t, A5, c5, hq, rfl, rfl, ht, HT, HO5, HB5⟩ := hrel
        have hsz5 := HB5.out.size
        by_cases hqn : q < N
        · have hc2 := HC2.out (q + 1) (by omega)
          have hBx := HB3.out.trans (HB5.out.mono hsz3)
          have hcc2 := (hBx.cell (p := ⟨b2, off2 + (q + 1), none⟩) hb2).trans hc2
          rw [show off2 + (q + 1) = off2 + 1 + q by omega] at hcc2
          have hq0 : (0 : Int) ≤ (q : Int) := by omega
          have hq2 : (q : Int) < (N : Int) := by omega
          clear hc2 hBx
          rcases HPm.out (s + 1) (q + 1) (by omega) (by omega) with hv | hv
          · have HSu := Lib.hid (doTo_hit hv)
            rw [hv] at hcc2
            clear hv
            go_wp2_with (at_builtin; refine wpI_append rfl _ _ rfl wo.heap.size _ _ _ (doTo g (s + 1) q) ((q : Int)) wr.heap.size rfl rfl HT.out (HO5.out.alloc (.cells #[.int .i64 ((q : Int))] 2)) (World.cell?_alloc_at _ _ _ _ rfl) (by omega) (by simp; omega) ?_; intro A3 c3 w3 ho3 hg3 ha3)
            have hB3 : Below wo.heap.size wo w3 := (HB5.out.alloc HB5.out.size (.cells #[.int .i64 ((q : Int))] 2)).trans (below_blk (HO5.out.alloc (.cells #[.int .i64 ((q : Int))] 2)) hg3 (Nat.le_refl _) (by simp; omega))
            have HO3 := Lib.hid ho3
            have HB3 := Lib.hid hB3
            clear ho3 hg3 ha3 hB3
            have HT3 := Lib.hid (show (doTo g (s + 1) (q + 1)).length = t + 1 from by rw [HSu.out, List.length_append, HT.out]; rfl)
            have HO6 := Lib.hid (show OwnI w3 wo.heap.size A3 c3 (doTo g (s + 1) (q + 1)) from by rw [HSu.out]; exact HO3.out)
            have ht3 : t + 1 ≤ N := by have := doTo_len g (s + 1) (q + 1); have := HT3.out; omega
            go_wp2
            go_roundw
            case rel => exact ⟨q + 1, t + 1, A3, c3, by omega, by go_num, rfl, ht3, HT3, HO6, HB3⟩
            case measure => simp [intOf]; omega
          · have HSu := Lib.hid (show doTo g (s + 1) (q + 1) = doTo g (s + 1) q from doTo_miss (by rw [hv]; omega))
            rw [hv] at hcc2
            clear hv
            go_wp2
            go_roundw
            case rel => exact ⟨q + 1, t, A5, c5, by omega, by go_num, rfl, ht, Lib.hid (by rw [HSu.out]; exact HT.out), Lib.hid (by rw [HSu.out]; exact HO5.out), HB5⟩
            case measure => simp [intOf]; omega
        · obtain rfl : q = N := by omega
          have HBx := Lib.hid (HB3.out.trans (HB5.out.mono hsz3))
          have hszx := HBx.out.size
          have HDl := Lib.hid (show (doR g q s).length = s from doR_len _ _ _)
          have HDs := Lib.hid (doR_succ g q s)
          have HAp := Lib.hid (later_apart HO3.out HO5.out)
          have HE7 := Lib.hid ((HO3.out.below HB5.out).alloc (.cells #[.slice A5 t c5] 37))
          have HX7 := Lib.hid ((HO5.out.lower (lo' := w4.heap.size) hsz3).alloc (.cells #[.slice A5 t c5] 37))
          go_wp2_with (at_builtin
                       refine wpM_append rfl _ _ rfl w4.heap.size _ _ _ R' (doR g q s) A5 t c5 (doTo g (s + 1) q) wr.heap.size rfl rfl HDl.out HT.out HE7.out HX7.out HAp.out (World.cell?_alloc_at _ _ _ _ rfl) (by omega) (by simp; omega) ?_
                       intro A8 c8 R8 w8 ho8 hg8 ha8)
          have HB8 := Lib.hid ((HBx.out.alloc hszx (.cells #[.slice A5 t c5] 37)).trans (below_blkM HE7.out hg8 (Nat.le_refl _) (by simp; omega)))
          have HO8 := Lib.hid (show OwnM w8 w4.heap.size A8 c8 R8 (doR g q (s + 1)) from by rw [HDs.out]; exact ho8)
          clear ho8 hg8 ha8
          go_wp2
          go_roundw
          case rel => exact ⟨s + 1, A8, c8, R8, by omega, by go_num, rfl, HO8, HB8⟩
          case measure => simp [intOf]; omega
    · obtain rfl : s = N := by omega
      have hMk := sorted_c wr (s : Int) A' s c' R' (doR g s s) HO3.out.rd (doR_len _ _ _) (by omega) (fun q hq => HLen'.out q hq)
      have hl : (doR g s s).length ≤ 128 := by rw [doR_len]; omega
      rw [show mkP (s : Int) (doR g s s) = rP from (if_pos hl).trans (by rw [HrP.out]; simp), show mkL (doR g s s) = rX from (if_pos hl).trans HrX.out.symm, show mkC (doR g s s) = 0 from if_pos hl] at hMk
      have HMk := Lib.hid hMk
      have HZ3 := Lib.hid (HZ4.out.step (lo := w4.heap.size) (by omega) HB3.out)
      have HBw := Lib.hid (HB4.out.trans (HB3.out.mono HB4.out.size))
      clear hMk hl
      go_wp2_with fail
      refine (sizeS_c _ _ _ _).mono ?_
      rintro e w' ⟨rfl, rfl⟩
      go_wp2_with fail
      refine (HMk.out).mono ?_
      rintro e w9 ⟨⟨A9, n9, c9, R9, rfl, hn9, ho9⟩, hb9⟩
      have HZ9 := Lib.hid (HZ3.out.step (lo := wr.heap.size) (by omega) hb9)
      have HB9 := Lib.hid (HBw.out.trans (hb9.mono HBw.out.size))
      have HO9 := Lib.hid (show OwnM w9 (w.heap.size + 1) A9 c9 R9 (rX) from ho9.lower (by omega))
      have HN9 := Lib.hid hn9
      clear hb9 ho9 hn9
      generalize rX = lst at *
      generalize rP = ptz at *
      generalize (0 : Int) = cdz at *
      have rz := HZ9.out
      have z0 := rz.c0
      have z1 := rz.c1
      have y0 := rz.f0
      have y1 := rz.f1
      clear rz
      go_wp2
      obtain ⟨r0, r1⟩ := HZ9.out.read (.int .i64 ptz) (.slice A9 n9 c9)
      refine bodyPost_ret (v := .tuple #[.agg #[.int .i64 ptz, .slice A9 n9 c9], .int .i64 cdz]) (by simp [results, Try.results35, go_sem, r0, r1]) rfl ⟨⟨A9, n9, c9, R9, rfl, HN9.out, own_set2 HO9.out (by omega) _ _⟩, below_set2 HB9.out (by omega)⟩
end Go.Proofs.Ytdneldecedbepaa
