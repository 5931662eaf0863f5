/-
  A block's number, the places of a set, and the designs that a block leaves: hasBlock and restricted of the program, l10Ask, l10Places and l10Part of the reference. Conditions: those of each theorem.
-/
import Derived.Test.YtdneldecedbepaaPartP
namespace Go.Proofs.Ytdneldecedbepaa
open Go.RowKit
set_option linter.unusedVariables false
set_option linter.unusedSimpArgs false

set_option maxRecDepth 100000 in
set_option maxHeartbeats 4000000 in
theorem l10Places_c (w : World) (A B : Option Addr) (n m c d : Nat) (xs pts : List Int) (hx : RdI w A c xs) (hn : xs.length = n) (hy : RdI w B d pts) (hm : pts.length = m) (h32 : m ≤ 1000) :
    Calls Try.prog 92 #[.slice A n c, .slice B m d] w (PostS w (plcL xs pts)) := by
  have HY := Lib.hid hy
  have HM := Lib.hid hm
  have HHas := Lib.hid (fun (W : World) (hb : Below w.heap.size w W) (x : Int) => has_c W A n c xs x (hx.below hb) hn)
  have H0 := Lib.hid (OwnI.lit0 w (Nat.le_refl w.heap.size))
  have HBz := Lib.hid ((Below.refl w.heap.size w).alloc (Nat.le_refl _) (.cells #[] 2))
  clear hx hn hy hm
  go_enter Try.func92, Try.ntmps92
  go_wp2
  go_loopw [5, 6] (fun o v wr => ∃ (k s : Nat) (A' : Option Addr) (c' : Nat), k ≤ m ∧ v = .int .i64 k ∧ o = .slice A' s c' ∧ Hid ((plcTo xs pts k).length = s) ∧ s ≤ k ∧ Hid (OwnI wr w.heap.size A' c' (plcTo xs pts k)) ∧ Hid (Below w.heap.size w wr)) (fun _ v _ => m - (intOf v).toNat)
  case atStart => exact ⟨0, 0, _, _, Nat.zero_le _, rfl, rfl, Lib.hid rfl, Nat.le_refl _, H0, HBz⟩
  case round =>
    obtain ⟨k, s, A', c', hk, rfl, rfl, HS, hsk, HO, HB⟩ := hrel
    have hz := HB.out.size
    by_cases hlt : k < m
    · have hkx : k < pts.length := by rw [HM.out]; exact hlt
      obtain ⟨b0, off, e, hb, hc⟩ := HY.out.at_ k hkx
      subst e
      have hcc := (HB.out.cell (p := ⟨b0, off + k, none⟩) hb).trans hc
      have hSu := plcTo_succ xs pts k
      have HH := Lib.hid (HHas.out wr HB.out (nth pts k))
      clear hc
      rcases hv : hasB xs (nth pts k) with _ | _
      · rw [hv] at hSu HH
        simp only [Bool.false_eq_true, if_false, List.append_nil] at hSu
        have HSu := Lib.hid hSu
        clear hSu hv
        go_wp2_with fail
        refine (HH.out).mono ?_
        rintro e w' ⟨rfl, rfl⟩
        go_wp2
        go_roundw
        case rel => exact ⟨k + 1, s, A', c', by omega, by go_num, rfl, Lib.hid (by rw [HSu.out]; exact HS.out), by omega, Lib.hid (by rw [HSu.out]; exact HO.out), HB⟩
        case measure => simp [intOf]; omega
      · rw [hv] at hSu HH
        simp only [if_true] at hSu
        have HSu := Lib.hid hSu
        clear hSu hv
        go_wp2_with fail
        refine (HH.out).mono ?_
        rintro e w' ⟨rfl, rfl⟩
        go_wp2_with (at_builtin; refine wpI_append rfl _ _ rfl w.heap.size _ _ _ (plcTo xs pts k) ((k : Int)) wr.heap.size rfl rfl HS.out (HO.out.alloc (.cells #[.int .i64 ((k : Int))] 2)) (World.cell?_alloc_at _ _ _ _ rfl) (by omega) (by simp; omega) ?_; intro A3 c3 w3 ho3 hg3 ha3)
        have hB3 : Below w.heap.size w w3 := (HB.out.alloc HB.out.size (.cells #[.int .i64 ((k : Int))] 2)).trans (below_blk (HO.out.alloc (.cells #[.int .i64 ((k : Int))] 2)) hg3 (Nat.le_refl _) (by simp; omega))
        have HO3 := Lib.hid ho3
        have HB3 := Lib.hid hB3
        clear ho3 hg3 ha3 hB3
        have HS3 := Lib.hid (show (plcTo xs pts (k + 1)).length = s + 1 from by rw [HSu.out, List.length_append, HS.out]; rfl)
        have HO4 := Lib.hid (show OwnI w3 w.heap.size A3 c3 (plcTo xs pts (k + 1)) from by rw [HSu.out]; exact HO3.out)
        go_wp2
        go_roundw
        case rel => exact ⟨k + 1, s + 1, A3, c3, by omega, by go_num, rfl, HS3, by omega, HO4, HB3⟩
        case measure => simp [intOf]; omega
    · obtain rfl : k = m := by omega
      have HSf := Lib.hid (show (plcL xs pts).length = s from by unfold plcL; rw [HM.out]; exact HS.out)
      have HOf := Lib.hid (show OwnI wr w.heap.size A' c' (plcL xs pts) from by unfold plcL; rw [HM.out]; exact HO.out)
      go_wp2
      go_ret
      exact ⟨⟨A', s, c', rfl, HSf.out, HOf.out⟩, HB.out⟩

set_option maxHeartbeats 2000000 in
theorem hasBlock_c (w : World) (p j : Int) (A : Option Addr) (n c : Nat) (R : Spine) (xss : List (List Int)) (hr : RdM w A c R xss) (hn : xss.length = n) :
    Calls Try.prog 55 #[.agg #[.int .i64 p, .slice A n c], .int .i64 j] w fun e w' => e = .returned (.int .i64 (hbC p xss j)) ∧ Below w.heap.size w w' := by
  obtain ⟨wa, hwa⟩ : ∃ wa, wa = w.alloc (.cells #[.int .i64 p, .slice A n c] 26) := ⟨_, rfl⟩
  have hXa : BoxD wa w.heap.size p A n c := by rw [hwa]; exact BoxD.made _ _ _ _ _ _
  have hBa : Below w.heap.size w wa := by rw [hwa]; exact below_boxed _ _
  have hO := ValidDesign_c wa p A n c R xss (hr.below hBa) hn
  rcases hd : dsgB p xss with _ | _
  · rw [hd] at hO
    rw [show hbC p xss j = 1 by unfold hbC; rw [hd]; rfl]
    rw [hwa] at hO
    have HO := Lib.hid hO
    have HWa := Lib.hid hwa
    have HBa := Lib.hid hBa
    clear hO hwa hXa hBa hd hr hn
    go_enter Try.func55, Try.ntmps55
    go_wp2_with fail
    refine (HO.out).mono ?_
    rintro e w2 ⟨rfl, hb2⟩
    rw [← HWa.out] at hb2
    have HB2 := Lib.hid (HBa.out.trans (hb2.mono HBa.out.size))
    clear hb2
    go_wp2
    go_ret
    exact ⟨rfl, HB2.out⟩
  · have hn128 : n ≤ 128 := by have := (dsgB_true.1 hd).2.1; omega
    rw [hd] at hO
    have HC := Lib.hid (show hbC p xss j = if inB j 0 ((n : Int) - 1) = true then 0 else 2 by unfold hbC; rw [if_pos hd, hn])
    have HIn := Lib.hid (fun W => within_c j 0 ((n : Int) - 1) W)
    rw [hwa] at hO
    have HO := Lib.hid hO
    have HWa := Lib.hid hwa
    have HBa := Lib.hid hBa
    have HXa := Lib.hid hXa
    clear hO hwa hXa hBa hd hr hn
    generalize hbC p xss j = code at *
    rcases hi : inB j 0 ((n : Int) - 1) with _ | _
    all_goals
      have HIn' := Lib.hid (fun W => hi ▸ HIn.out W)
      have HC' := Lib.hid (hi ▸ HC.out)
      clear hi HIn HC
      go_enter Try.func55, Try.ntmps55
      go_wp2_with fail
      refine (HO.out).mono ?_
      rintro e w2 ⟨rfl, hb2⟩
      rw [← HWa.out] at hb2
      have hx2 := HXa.out.below hb2
      have hc0 := hx2.c0
      have hc1 := hx2.c1
      have HB2 := Lib.hid (HBa.out.trans (hb2.mono HBa.out.size))
      clear hb2 hx2
      go_wp2_with fail
      refine (sizeS_c _ _ _ _).mono ?_
      rintro e w' ⟨rfl, rfl⟩
      go_wp2_with fail
      refine (HIn'.out _).mono ?_
      rintro e w' ⟨rfl, rfl⟩
      go_wp2
      go_ret
      exact ⟨by rw [HC'.out]; rfl, HB2.out⟩

set_option maxHeartbeats 2000000 in
theorem l10Ask_c (w : World) (g : Nat) (p j : Int) (A : Option Addr) (n c : Nat) (R : Spine) (xss : List (List Int)) (hx : BoxD w g p A n c) (hr : RdM w A c R xss) (hn : xss.length = n) :
    Calls Try.prog 53 #[.pointer (some ⟨g, 0, none⟩), .int .i64 j] w (EndQ (.int .i64 (hbC p xss j)) w) := by
  have hO := l10Ok_c w g A n c R xss p hx hr hn
  rcases hd : dsgB p xss with _ | _
  · rw [hd] at hO
    rw [show hbC p xss j = 1 by unfold hbC; rw [hd]; rfl]
    have HO := Lib.hid hO
    clear hO hd hr hn hx
    go_enter Try.func53, Try.ntmps53
    go_wp2_with fail
    refine (HO.out).mono ?_
    rintro e w' ⟨rfl, q, rfl⟩
    go_wp2
    go_ret
    exact ⟨rfl, q, rfl⟩
  · have hn128 : n ≤ 128 := by have := (dsgB_true.1 hd).2.1; omega
    rw [hd] at hO
    have HC := Lib.hid (show hbC p xss j = if inB j 0 ((n : Int) - 1) = true then 0 else 2 by unfold hbC; rw [if_pos hd, hn])
    have HIn := Lib.hid (fun W => in_c j 0 ((n : Int) - 1) W)
    have HO := Lib.hid hO
    have HX := Lib.hid hx
    clear hO hd hr hn hx
    generalize hbC p xss j = code at *
    rcases hi : inB j 0 ((n : Int) - 1) with _ | _
    all_goals
      have HIn' := Lib.hid (fun W => hi ▸ HIn.out W)
      have HC' := Lib.hid (hi ▸ HC.out)
      clear hi HIn HC
      go_enter Try.func53, Try.ntmps53
      go_wp2_with fail
      refine (HO.out).mono ?_
      rintro e w' ⟨rfl, q, rfl⟩
      have hx2 := HX.out.drewN q
      have hc0 := hx2.c0
      have hc1 := hx2.c1
      clear hx2
      go_wp2_with fail
      refine (HIn'.out _).mono ?_
      rintro e w' ⟨rfl, rfl⟩
      go_wp2
      go_ret
      exact ⟨by rw [HC'.out]; rfl, q, rfl⟩

set_option maxRecDepth 100000 in
set_option maxHeartbeats 8000000 in
theorem restricted_c (w : World) (p j : Int) (A B : Option Addr) (n c m d : Nat) (R : Spine) (xss : List (List Int)) (pts : List Int) (hr : RdM w A c R xss) (hn : xss.length = n) (hn128 : n ≤ 128) (hy : RdI w B d pts) (hm : pts.length = m) (hset : ∀ k, k < xss.length → setB (row xss k) 32 = true) (hps : setB pts 32 = true) :
    Calls Try.prog 56 #[.agg #[.int .i64 p, .slice A n c], .int .i64 j, .slice B m d] w (PostDC w (ptP xss j pts) (ptX xss j pts) (ptC xss j pts)) := by
  have hzD := zeroD
  obtain ⟨wa, hwa⟩ : ∃ wa, wa = (w.alloc (.cells #[.int .i64 p, .slice A n c] 26)).alloc (.cells #[.int .i64 0, .slice none 0 0] 26) := ⟨_, rfl⟩
  have hXa : BoxD wa w.heap.size p A n c := by rw [hwa]; exact (BoxD.made _ _ _ _ _ _).below (below_boxed _ _)
  have hZa : RBox wa (w.heap.size + 1) := by
    rw [hwa]
    have := RBox.made (w.alloc (.cells #[.int .i64 p, .slice A n c] 26)) 26
    simpa using this
  have hBa : Below w.heap.size w wa := by rw [hwa]; exact (below_boxed _ _).alloc (by simp) _
  have hsa : w.heap.size + 2 ≤ wa.heap.size := by rw [hwa]; simp
  have HXa := Lib.hid hXa
  have HZa := Lib.hid hZa
  have HBa := Lib.hid hBa
  have hm32 : m ≤ 32 := by have := setB_len (P := 32) hps; omega
  obtain ⟨bad, hbad⟩ : ∃ bad : Prop, bad = ptBad xss j pts := ⟨_, rfl⟩
  have HBad := Lib.hid (show bad ↔ pts.length = 0 ∨ ∃ i, i < xss.length ∧ ((i : Int) ≠ j ∧ (plcL (row xss i) pts).length = 0) from by rw [hbad]; exact Iff.rfl)
  have HRes : (bad → ptP xss j pts = 0 ∧ ptX xss j pts = [] ∧ ptC xss j pts = 6) ∧ (¬ bad → ptP xss j pts = mkP (m : Int) (ptR xss j pts n) ∧ ptX xss j pts = mkL (ptR xss j pts n) ∧ ptC xss j pts = mkC (ptR xss j pts n)) := by
    rw [hbad, ← hm, ← hn]
    refine ⟨fun h => ?_, fun h => ?_⟩
    · unfold ptP ptX ptC; exact ⟨if_pos h, if_pos h, if_pos h⟩
    · unfold ptP ptX ptC; exact ⟨if_neg h, if_neg h, if_neg h⟩
  have HRes := Lib.hid HRes
  have HBlk := Lib.hid (fun (hf : ¬ bad) q (hq : q < (ptR xss j pts n).length) => (show blockB (row (ptR xss j pts n) q) (m : Int) = true from by
    have hq' : q < (ptR xss j pts xss.length).length := by rw [hn]; exact hq
    have := pt_blocks (xss := xss) (j := j) (pts := pts) (by omega) (by rw [← hbad]; exact hf) hq'
    rwa [hn, hm] at this))
  have HLen := Lib.hid (fun k q (hq : q < (ptR xss j pts k).length) => (show (row (ptR xss j pts k) q).length ≤ 1048576 from by
    obtain ⟨i, _, _, e⟩ := pt_row_mem hq
    rw [e]
    have := plcL_len (row xss i) pts
    omega))
  have HR := Lib.hid hr
  have HN := Lib.hid hn
  have HY := Lib.hid hy
  have HM := Lib.hid hm
  have HSet := Lib.hid hset
  have HPs := Lib.hid hps
  have HWa := Lib.hid hwa
  generalize ptP xss j pts = rP at *
  generalize ptX xss j pts = rX at *
  generalize ptC xss j pts = rC at *
  clear hwa hXa hZa hBa hr hn hy hps hset hbad
  go_enter Try.func56, Try.ntmps56
  go_wp2
  rw [← HWa.out]
  have HE0 := Lib.hid (OwnM.nil_ wa wa.heap.size (fun _ => (none, 0)))
  have HEb := Lib.hid (Below.refl wa.heap.size wa)
  go_loopw [8, 17] (fun o v wr => ∃ (k s : Nat) (A' : Option Addr) (c' : Nat) (R' : Spine), k ≤ n ∧ v = .int .i64 k ∧ o = .slice A' s c' ∧ Hid ((ptR xss j pts k).length = s) ∧ s ≤ k ∧ Hid (∀ i, i < k → (i : Int) ≠ j → (plcL (row xss i) pts).length ≠ 0) ∧ Hid (OwnM wr wa.heap.size A' c' R' (ptR xss j pts k)) ∧ Hid (Below wa.heap.size wa wr)) (fun _ v _ => n - (intOf v).toNat)
  case atStart => exact ⟨0, 0, _, _, _, Nat.zero_le _, rfl, rfl, Lib.hid rfl, Nat.le_refl _, Lib.hid (fun i hi => absurd hi (by omega)), HE0, HEb⟩
  case round =>
    obtain ⟨k, s, A', c', R', hk, rfl, rfl, HS, hsk, HNo, HO3, HB3⟩ := hrel
    by_cases hlt : k < n
    · have hkx : k < xss.length := by rw [HN.out]; exact hlt
      obtain ⟨b, off, e, hb, hc⟩ := HR.out.at_ k hkx
      have hcc := ((HBa.out.trans (HB3.out.mono HBa.out.size)).cell (p := ⟨b, off + k, none⟩) hb).trans hc
      subst e
      have hk1 : (0 : Int) ≤ (k : Int) := by omega
      have hk2 : (k : Int) < (n : Int) := by omega
      clear hc
      by_cases hj : (k : Int) = j
      · have hjd : ((k : Int) == j) = true := by simp [hj]
        have HSu := Lib.hid (ptR_hit (xss := xss) (pts := pts) hj)
        have HNo' := Lib.hid (show ∀ i, i < k + 1 → (i : Int) ≠ j → (plcL (row xss i) pts).length ≠ 0 from fun i hi h => HNo.out i (by
          by_cases e : i = k
          · subst e; exact absurd hj h
          · omega) h)
        clear hj
        go_wp2
        go_roundw
        case rel => exact ⟨k + 1, s, A', c', R', by omega, by go_num, rfl, Lib.hid (by rw [HSu.out]; exact HS.out), by omega, HNo', Lib.hid (by rw [HSu.out]; exact HO3.out), HB3⟩
        case measure => simp [intOf]; omega
      · have hjd : ((k : Int) == j) = false := by simp [hj]
        have HSu := Lib.hid (ptR_miss (xss := xss) (pts := pts) hj)
        have HBw := Lib.hid (HBa.out.trans (HB3.out.mono HBa.out.size))
        have HMe := Lib.hid (MeetSets_c wr (R k).1 B (row xss k).length m (R k).2 d (row xss k) pts ((HR.out.below HBw.out).rows k hkx) rfl (HY.out.below HBw.out) HM.out)
        have HIx := Lib.hid (ix_all (HSet.out k hkx) HPs.out)
        have HMl := Lib.hid (meet_nil (HSet.out k hkx) HPs.out)
        have HJ := Lib.hid hj
        have hsz3 := HB3.out.size
        clear hj
        go_wp2_with fail
        refine (HMe.out).mono ?_
        rintro e w4 ⟨⟨A4, n4, c4, rfl, hn4, ho4⟩, hb4⟩
        rw [hn4] at HIx HMl
        have hn4k : n4 ≤ 32 := by have := plcL_len (row xss k) pts; have := HMl.out; omega
        generalize meetL (row xss k) pts = ms at *
        have HN4 := Lib.hid hn4
        have HO4 := Lib.hid ho4
        have HM4 := Lib.hid (HO3.out.below hb4)
        have HBw4 := Lib.hid (HBw.out.trans (hb4.mono HBw.out.size))
        have HB4 := Lib.hid (HB3.out.trans (hb4.mono hsz3))
        have hsz4 := HB4.out.size
        have HY4 := Lib.hid (HY.out.below HBw4.out)
        have HI0 := Lib.hid (OwnI.nil_ w4 w4.heap.size)
        have HIb := Lib.hid (Below.refl w4.heap.size w4)
        clear hn4 ho4 hb4 hcc
        obtain ⟨wo, rfl⟩ : ∃ wo, wo = wr := ⟨_, rfl⟩
        go_wp2
        go_loopw [11, 29] (fun o v wi => ∃ (q : Nat) (A5 : Option Addr) (c5 : Nat), q ≤ n4 ∧ v = .int .i64 q ∧ o = .slice A5 q c5 ∧ Hid (OwnI wi w4.heap.size A5 c5 (ixTo pts ms q)) ∧ Hid (Below w4.heap.size w4 wi)) (fun _ v _ => n4 - (intOf v).toNat)
        case atStart => exact ⟨0, _, _, Nat.zero_le _, rfl, rfl, HI0, HIb⟩
        case round =>
          obtain ⟨q, A5, c5, hq, rfl, rfl, HO5, HB5⟩ := hrel
          have hsz5 := HB5.out.size
          by_cases hqn : q < n4
          · have hqx : q < ms.length := by rw [HN4.out]; exact hqn
            obtain ⟨b4, off4, e4, hb4, hc4⟩ := HO4.out.rd.at_ q hqx
            subst e4
            have hcq := (HB5.out.cell (p := ⟨b4, off4 + q, none⟩) hb4).trans hc4
            have HIn := Lib.hid (index_c wr B m d pts (nth ms q) (HY4.out.below HB5.out) HM.out)
            have HXu := Lib.hid (ixTo_succ (pts := pts) hqx)
            have HXl := Lib.hid (ixTo_len (pts := pts) (Nat.le_of_lt hqx))
            rw [HM.out] at HXu
            have hqk : q ≤ 32 := by omega
            clear hc4
            go_wp2_with fail
            refine (HIn.out).mono ?_
            rintro e w' ⟨rfl, rfl⟩
            generalize firstIdx (idxB pts (nth ms q)) m = z at *
            go_wp2_with (at_builtin; refine wpI_append rfl _ _ rfl w4.heap.size _ _ _ (ixTo pts ms q) (z) wr.heap.size rfl rfl HXl.out (HO5.out.alloc (.cells #[.int .i64 (z)] 2)) (World.cell?_alloc_at _ _ _ _ rfl) (by omega) (by simp; omega) ?_; intro A3 c3 w3 ho3 hg3 ha3)
            have hB3 : Below w4.heap.size w4 w3 := (HB5.out.alloc HB5.out.size (.cells #[.int .i64 (z)] 2)).trans (below_blk (HO5.out.alloc (.cells #[.int .i64 (z)] 2)) hg3 (Nat.le_refl _) (by simp; omega))
            have HO3 := Lib.hid ho3
            have HB3 := Lib.hid hB3
            clear ho3 hg3 ha3 hB3
            have HO6 := Lib.hid (show OwnI w3 w4.heap.size A3 c3 (ixTo pts ms (q + 1)) from by rw [HXu.out]; exact HO3.out)
            go_wp2
            go_roundw
            case rel => exact ⟨q + 1, A3, c3, by omega, by go_num, rfl, HO6, HB3⟩
            case measure => simp [intOf]; omega
          · obtain rfl : q = n4 := by omega
            have HOx := Lib.hid (show OwnI wr w4.heap.size A5 c5 (plcL (row xss k) pts) from by rw [← HIx.out]; exact HO5.out)
            have HBx := Lib.hid (HB4.out.trans (HB5.out.mono hsz4))
            have hszx := HBx.out.size
            by_cases hq0 : q = 0
            · subst hq0
              obtain ⟨e1, e2, e3⟩ := HRes.out.1 (HBad.out.2 (Or.inr ⟨k, hkx, HJ.out, HMl.out.symm⟩))
              subst e1 e2 e3
              have HZx := Lib.hid (HZa.out.step (lo := wa.heap.size) (by omega) HBx.out)
              have HBwx := Lib.hid (HBa.out.trans (HBx.out.mono HBa.out.size))
              have rz := HZx.out
              have z0 := rz.c0
              have z1 := rz.c1
              have y0 := rz.f0
              have y1 := rz.f1
              clear rz
              go_wp2
              obtain ⟨r0, r1⟩ := HZx.out.read (.int .i64 0) (.slice none 0 0)
              refine bodyPost_ret (v := .tuple #[.agg #[.int .i64 0, .slice none 0 0], .int .i64 6]) (by simp [results, Try.results56, go_sem, r0, r1]) rfl ⟨⟨none, 0, 0, fun _ => (none, 0), rfl, rfl, OwnM.nil_ _ _ _⟩, below_set2 HBwx.out (by omega)⟩
            · have hd0 : ((q : Int) == 0) = false := by simp; omega
              have HNo' := Lib.hid (show ∀ i, i < k + 1 → (i : Int) ≠ j → (plcL (row xss i) pts).length ≠ 0 from fun i hi h => by
                by_cases e : i = k
                · subst e; have := HMl.out; omega
                · exact HNo.out i (by omega) h)
              have HAp := Lib.hid (later_apart HM4.out HOx.out)
              have HE7 := Lib.hid ((HM4.out.below HB5.out).alloc (.cells #[.slice A5 q c5] 37))
              have HX7 := Lib.hid ((HOx.out.lower (lo' := wa.heap.size) hsz4).alloc (.cells #[.slice A5 q c5] 37))
              go_wp2_with (at_builtin
                           refine wpM_append rfl _ _ rfl wa.heap.size _ _ _ R' (ptR xss j pts k) A5 q c5 (plcL (row xss k) pts) wr.heap.size rfl rfl HS.out HMl.out.symm HE7.out HX7.out HAp.out (World.cell?_alloc_at _ _ _ _ rfl) (by omega) (by simp; omega) ?_
                           intro A8 c8 R8 w8 ho8 hg8 ha8)
              have HB8 := Lib.hid ((HBx.out.alloc hszx (.cells #[.slice A5 q c5] 37)).trans (below_blkM HE7.out hg8 (Nat.le_refl _) (by simp; omega)))
              have HO8 := Lib.hid (show OwnM w8 wa.heap.size A8 c8 R8 (ptR xss j pts (k + 1)) from by rw [HSu.out]; exact ho8)
              have HS8 := Lib.hid (show (ptR xss j pts (k + 1)).length = s + 1 from by rw [HSu.out, List.length_append, HS.out]; rfl)
              clear ho8 hg8 ha8
              go_wp2
              go_roundw
              case rel => exact ⟨k + 1, s + 1, A8, c8, R8, by omega, by go_num, rfl, HS8, by omega, HNo', HO8, HB8⟩
              case measure => simp [intOf]; omega
    · obtain rfl : k = n := by omega
      by_cases hm0 : m = 0
      · subst hm0
        obtain ⟨e1, e2, e3⟩ := HRes.out.1 (HBad.out.2 (Or.inl HM.out))
        subst e1 e2 e3
        have HZx := Lib.hid (HZa.out.step (lo := wa.heap.size) (by omega) HB3.out)
        have HBwx := Lib.hid (HBa.out.trans (HB3.out.mono HBa.out.size))
        have rz := HZx.out
        have z0 := rz.c0
        have z1 := rz.c1
        have y0 := rz.f0
        have y1 := rz.f1
        clear rz
        go_wp2
        obtain ⟨r0, r1⟩ := HZx.out.read (.int .i64 0) (.slice none 0 0)
        refine bodyPost_ret (v := .tuple #[.agg #[.int .i64 0, .slice none 0 0], .int .i64 6]) (by simp [results, Try.results56, go_sem, r0, r1]) rfl ⟨⟨none, 0, 0, fun _ => (none, 0), rfl, rfl, OwnM.nil_ _ _ _⟩, below_set2 HBwx.out (by omega)⟩
      · have hd0 : ((m : Int) == 0) = false := by simp; omega
        have hnf : ¬ bad := fun h => by
          rcases HBad.out.1 h with h | ⟨i, hi, hj, h⟩
          · have := HM.out; omega
          · exact HNo.out i (by rw [← HN.out]; exact hi) hj h
        obtain ⟨e1, e2, e3⟩ := HRes.out.2 hnf
        subst e1 e2 e3
        have HMk := Lib.hid (sorted_c wr (m : Int) A' s c' R' (ptR xss j pts k) HO3.out.rd HS.out (by omega) (fun q hq => HLen.out k q (by rw [HS.out]; exact hq)))
        have hsz3 := HB3.out.size
        have HZ3 := Lib.hid (HZa.out.step (lo := wa.heap.size) (by omega) HB3.out)
        have HBw := Lib.hid (HBa.out.trans (HB3.out.mono HBa.out.size))
        go_wp2_with fail
        refine (sizeI_c _ _ _ _).mono ?_
        rintro e w' ⟨rfl, rfl⟩
        go_wp2_with fail
        refine (HMk.out).mono ?_
        rintro e w9 ⟨⟨A9, n9, c9, R9, rfl, hn9, ho9⟩, hb9⟩
        have HZ9 := Lib.hid (HZ3.out.step (lo := wr.heap.size) (by omega) hb9)
        have HB9 := Lib.hid (HBw.out.trans (hb9.mono HBw.out.size))
        have HO9 := Lib.hid (show OwnM w9 (w.heap.size + 1 + 1) A9 c9 R9 (mkL (ptR xss j pts k)) from ho9.lower (by omega))
        have HN9 := Lib.hid hn9
        clear hb9 ho9 hn9
        generalize mkL (ptR xss j pts k) = lst at *
        generalize mkP (m : Int) (ptR xss j pts k) = ptz at *
        generalize mkC (ptR xss j pts k) = cdz at *
        have rz := HZ9.out
        have z0 := rz.c0
        have z1 := rz.c1
        have y0 := rz.f0
        have y1 := rz.f1
        clear rz
        go_wp2
        obtain ⟨r0, r1⟩ := HZ9.out.read (.int .i64 ptz) (.slice A9 n9 c9)
        refine bodyPost_ret (v := .tuple #[.agg #[.int .i64 ptz, .slice A9 n9 c9], .int .i64 cdz]) (by simp [results, Try.results56, go_sem, r0, r1]) rfl ⟨⟨A9, n9, c9, R9, rfl, HN9.out, own_set2 HO9.out (by omega) _ _⟩, below_set2 HB9.out (by omega)⟩
end Go.Proofs.Ytdneldecedbepaa
