/-
  DualDesign of the program. Conditions: those of each theorem.
-/
import Derived.Test.YtdneldecedbepaaDual
namespace Go.Proofs.Ytdneldecedbepaa
open Go.RowKit
set_option linter.unusedVariables false
set_option linter.unusedSimpArgs false

theorem emptyRow_c (W : World) (A : Option Addr) (n c : Nat) : Calls Try.prog 62 #[.slice A n c] W (PostV W (.bool (decide (n = 0)))) := by
  by_cases h : n = 0
  · subst h
    go_enter Try.func62, Try.ntmps62
    go_wp2
    go_ret
    exact ⟨rfl, Below.refl _ _⟩
  · rw [decide_eq_false h]
    have hd : ((n : Int) == 0) = false := by simp [h]
    clear h
    go_enter Try.func62, Try.ntmps62
    go_wp2
    go_ret
    exact ⟨rfl, Below.refl _ _⟩

/-- The outer cell stays where the step turned a row's block alone. -/
theorem OwnM.outer_at {w w' : World} {lo : Nat} {g c : Nat} {R : Spine} {xss : List (List Int)} (h : OwnM w lo (some ⟨g, 0, none⟩) c R xss) {i : Nat} (hi : i < xss.length) (hg : w.grownBy w' (blk (R i).1)) :
    w'.cell? ⟨g, i, none⟩ = some (.slice (R i).1 (row xss i).length (R i).2) ∧ w'.frozen? ⟨g, i, none⟩ = false := by
  have hown' : w'.ownsRow lo 37 1 (.slice (some ⟨g, 0, none⟩) xss.length c) xss.length ((List.range xss.length).map fun k => .slice (R k).1 (row xss k).length (R k).2) := by
    refine ⟨h.own.1, ?_⟩
    rcases h.own.2 with hn | ⟨g0, cap, cur, e, hlo, hh, r⟩
    · exact .inl hn
    · refine .inr ⟨g0, cap, cur, e, hlo, ?_, r⟩
      rw [hg.block g0 (Array.getElem?_eq_some_iff.1 hh).1 ?_]
      · exact hh
      · injection e with e1 _ _
        have := h.outer_ne hi e1
        rcases (h.rows i hi).form with ⟨e2, _⟩ | ⟨g', e2, _⟩
        · rw [e2]; simp [blk]
        · rw [e2] at this ⊢
          simp only [blk_some, ne_eq, Option.some.injEq]
          rintro rfl
          exact this rfl
  refine ⟨?_, World.ownsRow.frozenAt hown' i⟩
  rw [World.ownsRow.cellAt hown' i (by omega)]
  simp [hi]

set_option maxRecDepth 100000 in
set_option maxHeartbeats 8000000 in
theorem implDualDesign_c (w : World) (p : Int) (hp : -9223372036854775808 ≤ p ∧ p ≤ 9223372036854775807) (A : Option Addr) (n c : Nat) (R : Spine) (xss : List (List Int)) (hr : RdM w A c R xss) (hn : xss.length = n) (hw : WfM xss) (hz : (n : Int) + (tot xss : Nat) ≤ 1048576) :
    Calls Try.prog 24 #[.agg #[.int .i64 p, .slice A n c]] w (PostDC w (duP p xss) (duX p xss) (duC p xss)) := by
  clear hw hz
  have hzD := zeroD
  obtain ⟨wa, hwa⟩ : ∃ wa, wa = (w.alloc (.cells #[.int .i64 p, .slice A n c] 26)).alloc (.cells #[.int .i64 0, .slice none 0 0] 26) := ⟨_, rfl⟩
  have hXa : BoxD wa w.heap.size p A n c := by rw [hwa]; exact (BoxD.made _ _ _ _ _ _).below (below_boxed _ _)
  have hZa : RBox wa (w.heap.size + 1) := by
    rw [hwa]
    have := RBox.made (w.alloc (.cells #[.int .i64 p, .slice A n c] 26)) 26
    simpa using this
  have hBa : Below w.heap.size w wa := by rw [hwa]; exact (below_boxed _ _).alloc (by simp) _
  have hsa : w.heap.size + 2 ≤ wa.heap.size := by rw [hwa]; simp
  have HXa := Lib.hid hXa
  have HZa := Lib.hid hZa
  have HBa := Lib.hid hBa
  have hO := ValidDesign_c wa p A n c R xss (hr.below hBa) hn
  rw [hwa] at hO
  rcases hd : dsgB p xss with _ | _
  · have h1 : duC p xss = 1 := if_neg (by rw [hd]; simp)
    rw [show duP p xss = 0 from if_neg (by omega), show duX p xss = [] from if_neg (by omega), h1]
    rw [hd] at hO
    have HO := Lib.hid hO
    have HWa := Lib.hid hwa
    clear hO hwa hXa hZa hBa hr hn hp hd h1
    go_enter Try.func24, Try.ntmps24
    go_wp2_with fail
    refine (HO.out).mono ?_
    rintro e w2 ⟨rfl, hb2⟩
    rw [← HWa.out] at hb2
    have HZ2 := Lib.hid (HZa.out.step (lo := wa.heap.size) (by omega) hb2)
    have HB2 := Lib.hid (HBa.out.trans (hb2.mono HBa.out.size))
    clear hb2
    have rz := HZ2.out
    have z0 := rz.c0
    have z1 := rz.c1
    have y0 := rz.f0
    have y1 := rz.f1
    clear rz
    go_wp2
    obtain ⟨r0, r1⟩ := HZ2.out.read (.int .i64 0) (.slice none 0 0)
    refine bodyPost_ret (v := .tuple #[.agg #[.int .i64 0, .slice none 0 0], .int .i64 1]) (by simp [results, Try.results24, go_sem, r0, r1]) rfl ⟨⟨none, 0, 0, fun _ => (none, 0), rfl, rfl, OwnM.nil_ _ _ _⟩, below_set2 HB2.out (by omega)⟩
  rw [hd] at hO
  have HO := Lib.hid hO
  have HWa := Lib.hid hwa
  have hn128 : n ≤ 128 := by have := (dsgB_true.1 hd).2.1; omega
  have hIn := fun W => within_c (n : Int) 1 32 W
  rcases hi : inB (n : Int) 1 32 with _ | _
  · simp only [hi] at hIn
    have h1 : duC p xss = 2 := (if_pos hd).trans (if_neg (by rw [hn, hi]; simp))
    rw [show duP p xss = 0 from if_neg (by omega), show duX p xss = [] from if_neg (by omega), h1]
    have HIn := Lib.hid hIn
    clear hO hwa hXa hZa hBa hr hn hp hd h1 hi hIn
    go_enter Try.func24, Try.ntmps24
    go_wp2_with fail
    refine (HO.out).mono ?_
    rintro e w2 ⟨rfl, hb2⟩
    rw [← HWa.out] at hb2
    have HX2 := Lib.hid (HXa.out.below hb2)
    have HZ2 := Lib.hid (HZa.out.step (lo := wa.heap.size) (by omega) hb2)
    have HB2 := Lib.hid (HBa.out.trans (hb2.mono HBa.out.size))
    have hs2 : w.heap.size + 2 ≤ w2.heap.size := by have := hb2.size; omega
    have hc0 := HX2.out.c0
    have hc1 := HX2.out.c1
    clear hb2
    go_wp2_with fail
    refine (sizeS_c _ _ _ _).mono ?_
    rintro e w' ⟨rfl, rfl⟩
    go_wp2_with fail
    refine (HIn.out w2).mono ?_
    rintro e w' ⟨rfl, rfl⟩
    have rz := HZ2.out
    have z0 := rz.c0
    have z1 := rz.c1
    have y0 := rz.f0
    have y1 := rz.f1
    clear rz
    go_wp2
    obtain ⟨r0, r1⟩ := HZ2.out.read (.int .i64 0) (.slice none 0 0)
    refine bodyPost_ret (v := .tuple #[.agg #[.int .i64 0, .slice none 0 0], .int .i64 2]) (by simp [results, Try.results24, go_sem, r0, r1]) rfl ⟨⟨none, 0, 0, fun _ => (none, 0), rfl, rfl, OwnM.nil_ _ _ _⟩, below_set2 HB2.out (by omega)⟩
  simp only [hi] at hIn
  have HIn := Lib.hid hIn
  have hn32 := inB_true.1 hi
  have hn32' : n ≤ 32 := by omega
  have hD := dsgB_true.1 hd
  obtain ⟨P, rfl⟩ : ∃ P : Nat, p = (P : Int) := ⟨p.toNat, by have := hD.1.1; omega⟩
  have hP : P ≤ 32 := by have := hD.1.2; omega
  obtain ⟨bad, hbad⟩ : ∃ bad : Prop, bad = duBad xss P := ⟨_, rfl⟩
  have HBad := Lib.hid (show bad ↔ ∃ x, x < P ∧ (duTo xss (x : Int) n).length = 0 from by rw [hbad, ← hn]; exact Iff.rfl)
  have HRes : (bad → duP (P : Int) xss = 0 ∧ duX (P : Int) xss = [] ∧ duC (P : Int) xss = 6) ∧ (¬ bad → duP (P : Int) xss = (n : Int) ∧ duX (P : Int) xss = sortLL (duR xss n P) ∧ duC (P : Int) xss = 0) := by
    rw [hbad]
    refine ⟨fun h => ?_, fun h => ?_⟩
    · have h1 : duC (P : Int) xss = 6 := (if_pos hd).trans ((if_pos (by rw [hn]; exact hi)).trans (if_pos h))
      exact ⟨if_neg (by omega), if_neg (by omega), h1⟩
    · have h1 : duC (P : Int) xss = 0 := (if_pos hd).trans ((if_pos (by rw [hn]; exact hi)).trans (if_neg h))
      exact ⟨(if_pos h1).trans (by rw [hn]), (if_pos h1).trans (by rw [hn]; rfl), h1⟩
  have HRes := Lib.hid HRes
  have HR := Lib.hid hr
  have HN := Lib.hid hn
  generalize duP (P : Int) xss = rP at *
  generalize duX (P : Int) xss = rX at *
  generalize duC (P : Int) xss = rC at *
  have HSet := Lib.hid (fun k (hk : k < xss.length) => setB_iff.1 (blockB_set (hD.2.2 k hk).1))
  have HRl := Lib.hid (fun k (hk : k < xss.length) => (show (row xss k).length ≤ 32 from setB_len (P := 32) (setB_more (blockB_set (hD.2.2 k hk).1) (by omega) (by omega))))
  clear hO hwa hXa hZa hBa hr hn hp hd hi hIn hD hbad
  have eg := Lib.hid (enters_of Try.func62 (by kernel_rfl) rfl)
  have hmk := fun W : World => run_make_row' (P := Try.prog) 22 37 (.slice none 0 0) 24 Try.underlying22 infoS rfl .i64 .i64 P (by omega) (by omega) W
  go_enter Try.func24, Try.ntmps24
  go_wp2_with fail
  refine (HO.out).mono ?_
  rintro e w2 ⟨rfl, hb2⟩
  rw [← HWa.out] at hb2
  have HX2 := Lib.hid (HXa.out.below hb2)
  have HZ2 := Lib.hid (HZa.out.step (lo := wa.heap.size) (by omega) hb2)
  have HB2 := Lib.hid (HBa.out.trans (hb2.mono HBa.out.size))
  have hs2 : w.heap.size + 2 ≤ w2.heap.size := by have := hb2.size; omega
  have hc0 := HX2.out.c0
  have hc1 := HX2.out.c1
  clear hb2
  go_wp2_with fail
  refine (sizeS_c _ _ _ _).mono ?_
  rintro e w' ⟨rfl, rfl⟩
  go_wp2_with fail
  refine (HIn.out w2).mono ?_
  rintro e w' ⟨rfl, rfl⟩
  have HM0 := Lib.hid (OwnM.made w2 P (by unfold maxLen; omega) (Nat.le_refl w2.heap.size))
  have HMb := Lib.hid ((Below.refl w2.heap.size w2).alloc (Nat.le_refl _) (.cells (madeCells #[.slice none 0 0] P) 37))
  have hcm1 : (w2.alloc (.cells (madeCells #[.slice none 0 0] P) 37)).cell? ⟨w.heap.size, 1, none⟩ = some (.slice A n c) := (HMb.out.cell (p := ⟨w.heap.size, 1, none⟩) (show w.heap.size < w2.heap.size by omega)).trans hc1
  obtain ⟨G, hG⟩ : ∃ G, G = w2.heap.size := ⟨_, rfl⟩
  go_wp2
  rw [← hG] at HM0 HMb ⊢
  generalize (w2.alloc (.cells (madeCells #[.slice none 0 0] P) 37)) = w3 at *
  have HG := Lib.hid hG
  have HD0 := Lib.hid (show OwnM w3 G (some ⟨G, 0, none⟩) P (fun _ => (none, 0)) (duM xss P 0 0) from by rw [duM_zero]; exact HM0.out)
  clear hmk hc0 hc1 hcm1 hG
  go_loopw [25] (fun v wr => ∃ (k : Nat) (R' : Spine), k ≤ n ∧ v = .int .i64 k ∧ Hid (OwnM wr G (some ⟨G, 0, none⟩) P R' (duM xss P k 0)) ∧ Hid (Below G w2 wr)) (fun v _ => n - (intOf v).toNat)
  case atStart => exact ⟨0, _, Nat.zero_le _, rfl, HD0, HMb⟩
  case round =>
    obtain ⟨k, R', hk, rfl, HO3, HB3⟩ := hrel
    have hsz3 : G ≤ wr.heap.size := by have := HB3.out.size; have := HG.out; omega
    have HBw := Lib.hid (show Below w.heap.size w wr from HB2.out.trans (HB3.out.mono (by rw [HG.out]; exact HB2.out.size)))
    by_cases hkn : k < n
    · have hkx : k < xss.length := by rw [HN.out]; exact hkn
      obtain ⟨b, off, e, hb, hc⟩ := HR.out.at_ k hkx
      have hcc := (HBw.out.cell (p := ⟨b, off + k, none⟩) hb).trans hc
      subst e
      have hk1 : (0 : Int) ≤ (k : Int) := by omega
      have hk2 : (k : Int) < (n : Int) := by omega
      have HRk := Lib.hid (HR.out.rows k hkx)
      have hrl := HRl.out k hkx
      obtain ⟨q, hq⟩ : ∃ q, q = (row xss k).length := ⟨_, rfl⟩
      rw [← hq] at hcc hrl
      have HQ := Lib.hid hq
      have HS := Lib.hid (HSet.out k hkx)
      clear hc hq
      obtain ⟨wo, rfl⟩ : ∃ wo, wo = wr := ⟨_, rfl⟩
      go_wp2
      go_loopw [32] (fun v wr => ∃ (j : Nat) (R2 : Spine), j ≤ q ∧ v = .int .i64 j ∧ Hid (OwnM wr G (some ⟨G, 0, none⟩) P R2 (duM xss P k j)) ∧ Hid (Below G w2 wr)) (fun v _ => q - (intOf v).toNat)
      case atStart => exact ⟨0, _, Nat.zero_le _, rfl, HO3, HB3⟩
      case round =>
        obtain ⟨j, R2, hj, rfl, HO5, HB5⟩ := hrel
        have hsz5 : G ≤ wr.heap.size := by have := HB5.out.size; have := HG.out; omega
        have HBw5 := Lib.hid (show Below w.heap.size w wr from HB2.out.trans (HB5.out.mono (by rw [HG.out]; exact HB2.out.size)))
        by_cases hjq : j < q
        · have hjx : j < (row xss k).length := by rw [← HQ.out]; exact hjq
          obtain ⟨b2, off2, e2, hb2, hc2⟩ := HRk.out.at_ j hjx
          have hcc2 := (HBw5.out.cell (p := ⟨b2, off2 + j, none⟩) hb2).trans hc2
          have hxi := HS.out.2.1 (nth (row xss k) j) (mem_nth.2 ⟨j, hjx, rfl⟩)
          obtain ⟨x, hx⟩ : ∃ x : Nat, nth (row xss k) j = (x : Int) := ⟨(nth (row xss k) j).toNat, by omega⟩
          have hxP : x < P := by omega
          have hxm : x < (duM xss P k j).length := by rw [duM_len]; exact hxP
          have HPut := Lib.hid (duM_put (P := P) HS.out.1 hjx hx hxP)
          rw [hx] at hcc2
          obtain ⟨g1, eg1, _, _, hcx, hfx⟩ := HO5.out.at_ hxm
          injection eg1 with eg1
          injection eg1 with eg1
          subst eg1
          have HRx := Lib.hid (HO5.out.rows x hxm)
          have hxr : (row (duM xss P k j) x).length ≤ 40 := by
            rw [duM_row hxP, List.length_append]
            have := duTo_len xss (x : Int) k
            split <;> simp <;> omega
          obtain ⟨t, ht⟩ : ∃ t, t = (row (duM xss P k j) x).length := ⟨_, rfl⟩
          rw [← ht] at hcx hxr
          have HT := Lib.hid ht.symm
          have HO7 := Lib.hid (HO5.out.alloc (.cells #[.int .i64 (k : Int)] 2))
          have HXm := Lib.hid hxm
          have hx0 : (0 : Int) ≤ (x : Int) := by omega
          have hx1 : (x : Int) < (P : Int) := by omega
          rw [e2]
          clear hc2 hxi hx e2 ht hb2 hxm
          generalize row (duM xss P k j) x = rx at *
          go_wp2_with (at_builtin; refine wpI_append rfl _ _ rfl G _ _ _ rx (k : Int) wr.heap.size rfl rfl HT.out (HRx.out.alloc (.cells #[.int .i64 (k : Int)] 2)) (World.cell?_alloc_at _ _ _ _ rfl) (by omega) (by simp; omega) ?_; intro A3 c3 w4 ho4 hg4 ha4; obtain ⟨hcx4, hfx4⟩ := HO7.out.outer_at HXm.out hg4)
          have HBw4 := Lib.hid (show Below G w2 w4 from (HB5.out.alloc hsz5 (.cells #[.int .i64 (k : Int)] 2)).trans (below_blk (HRx.out.alloc (.cells #[.int .i64 (k : Int)] 2)) hg4 (Nat.le_refl _) (by simp; omega)))
          have hpr := HO7.out.put_row HXm.out hg4 ho4 ha4
          rw [List.length_append, HT.out] at hpr
          have HO8 := Lib.hid (show OwnM (w4.setCell ⟨G, x, none⟩ (.slice A3 (t + 1) c3)) G (some ⟨G, 0, none⟩) P (putS R2 x A3 c3) (duM xss P k (j + 1)) from by rw [← HPut.out]; exact hpr)
          have HB8 := Lib.hid (HBw4.out.setCell (p := ⟨G, x, none⟩) (Nat.le_refl _) (.slice A3 (t + 1) c3))
          clear hpr ho4 hg4 ha4
          go_wp2
          go_roundw
          case rel => exact ⟨j + 1, _, by omega, by go_num, HO8, HB8⟩
          case measure => simp [intOf]; omega
        · obtain rfl : j = q := by omega
          have HO9 := Lib.hid (show OwnM wr G (some ⟨G, 0, none⟩) P R2 (duM xss P (k + 1) 0) from by rw [← duM_next, ← HQ.out]; exact HO5.out)
          go_wp2
          go_roundw
          case rel => exact ⟨k + 1, R2, by omega, by go_num, HO9, HB5⟩
          case measure => simp [intOf]; omega
    · obtain rfl : k = n := by omega
      have HOf := Lib.hid (show OwnM wr G (some ⟨G, 0, none⟩) P R' (duR xss k P) from by rw [← duM_full]; exact HO3.out)
      have HCo := Lib.hid (containsFuncM wr (some ⟨G, 0, none⟩) P P R' (duR xss k P) 62 #[] (fun x => decide ((row (duR xss k P) x).length = 0)) eg.out HOf.out.rd (duR_len _ _ _) (fun W x hx hb => emptyRow_c W _ _ _))
      have hany : anyTo (fun x => decide ((row (duR xss k P) x).length = 0)) P = true ↔ bad := by
        rw [HBad.out, anyTo_true]
        constructor
        · rintro ⟨x, hx, h⟩
          rw [decide_eq_true_eq, duR_row hx] at h
          exact ⟨x, hx, h⟩
        · rintro ⟨x, hx, h⟩
          exact ⟨x, hx, by rw [decide_eq_true_eq, duR_row hx]; exact h⟩
      have HZ3 := Lib.hid (HZ2.out.step (lo := G) (by have := HG.out; omega) HB3.out)
      have HX3 := Lib.hid (HX2.out.step (lo := G) (by have := HG.out; omega) HB3.out)
      have hGw : w.heap.size + 2 ≤ G := by have := HG.out; omega
      rcases ha : anyTo (fun x => decide ((row (duR xss k P) x).length = 0)) P with _ | _
      · have hnb : ¬ bad := fun h => by rw [hany.2 h] at ha; cases ha
        obtain ⟨e1, e2, e3⟩ := HRes.out.2 hnb
        subst e1 e2 e3
        rw [ha] at HCo
        clear ha hany
        have hl : (duR xss k P).length ≤ 128 := by rw [duR_len]; omega
        have HMk := Lib.hid (fun (W : World) (hb : Below wr.heap.size wr W) => (show Calls Try.prog 51 #[.int .i64 (k : Int), .slice (some ⟨G, 0, none⟩) P P] W (PostDC W (k : Int) (sortLL (duR xss k P)) 0) from by
          have hMk := sorted_c W (k : Int) (some ⟨G, 0, none⟩) P P R' (duR xss k P) (HOf.out.below hb).rd (duR_len _ _ _) (by omega) (fun x hx => by rw [duR_row hx]; have := duTo_len xss (x : Int) k; omega)
          rwa [show mkP (k : Int) (duR xss k P) = (k : Int) from if_pos hl, show mkL (duR xss k P) = sortLL (duR xss k P) from if_pos hl, show mkC (duR xss k P) = 0 from if_pos hl] at hMk))
        clear hl
        go_wp2_with fail
        refine (HCo.out).mono ?_
        rintro e w6 ⟨rfl, hb6⟩
        have HZ6 := Lib.hid (HZ3.out.step (lo := wr.heap.size) (by omega) hb6)
        have HX6 := Lib.hid (HX3.out.step (lo := wr.heap.size) (by omega) hb6)
        have HB6 := Lib.hid (HBw.out.trans (hb6.mono HBw.out.size))
        have HMw := Lib.hid (HMk.out w6 hb6)
        have hs6 : w.heap.size + 2 ≤ w6.heap.size := by have := hb6.size; omega
        have hc0 := HX6.out.c0
        have hc1 := HX6.out.c1
        clear hb6
        go_wp2_with fail
        refine (sizeS_c _ _ _ _).mono ?_
        rintro e w' ⟨rfl, rfl⟩
        go_wp2_with fail
        refine (HMw.out).mono ?_
        rintro e w9 ⟨⟨A9, n9, c9, R9, rfl, hn9, ho9⟩, hb9⟩
        have HZ9 := Lib.hid (HZ6.out.step (lo := w6.heap.size) (by omega) hb9)
        have HB9 := Lib.hid (HB6.out.trans (hb9.mono HB6.out.size))
        have HO9 := Lib.hid (show OwnM w9 (w.heap.size + 1 + 1) A9 c9 R9 (sortLL (duR xss k P)) from ho9.lower (by omega))
        have HN9 := Lib.hid hn9
        clear hb9 ho9 hn9
        generalize sortLL (duR xss k P) = lst at *
        generalize (k : Int) = ptz at *
        generalize (0 : Int) = cdz at *
        have rz := HZ9.out
        have z0 := rz.c0
        have z1 := rz.c1
        have y0 := rz.f0
        have y1 := rz.f1
        clear rz
        go_wp2
        obtain ⟨r0, r1⟩ := HZ9.out.read (.int .i64 ptz) (.slice A9 n9 c9)
        refine bodyPost_ret (v := .tuple #[.agg #[.int .i64 ptz, .slice A9 n9 c9], .int .i64 cdz]) (by simp [results, Try.results24, go_sem, r0, r1]) rfl ⟨⟨A9, n9, c9, R9, rfl, HN9.out, own_set2 HO9.out (by omega) _ _⟩, below_set2 HB9.out (by omega)⟩
      · obtain ⟨e1, e2, e3⟩ := HRes.out.1 (hany.1 ha)
        subst e1 e2 e3
        rw [ha] at HCo
        clear ha hany
        go_wp2_with fail
        refine (HCo.out).mono ?_
        rintro e w6 ⟨rfl, hb6⟩
        have HZ6 := Lib.hid (HZ3.out.step (lo := wr.heap.size) (by omega) hb6)
        have HB6 := Lib.hid (HBw.out.trans (hb6.mono HBw.out.size))
        clear hb6
        have rz := HZ6.out
        have z0 := rz.c0
        have z1 := rz.c1
        have y0 := rz.f0
        have y1 := rz.f1
        clear rz
        go_wp2
        obtain ⟨r0, r1⟩ := HZ6.out.read (.int .i64 0) (.slice none 0 0)
        refine bodyPost_ret (v := .tuple #[.agg #[.int .i64 0, .slice none 0 0], .int .i64 6]) (by simp [results, Try.results24, go_sem, r0, r1]) rfl ⟨⟨none, 0, 0, fun _ => (none, 0), rfl, rfl, OwnM.nil_ _ _ _⟩, below_set2 HB6.out (by omega)⟩
end Go.Proofs.Ytdneldecedbepaa
