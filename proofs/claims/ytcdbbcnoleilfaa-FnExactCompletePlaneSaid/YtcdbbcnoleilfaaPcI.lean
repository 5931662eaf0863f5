/-
  parallelClasses and ParallelClasses of the program. Conditions: those of each theorem.
-/
import Derived.Test.YtcdbbcnoleilfaaPcP
import Derived.Deep.RegionHeld3
namespace Go.Proofs.Ytcdbbcnoleilfaa
open Go.RowKit
set_option linter.unusedVariables false
set_option linter.unusedSimpArgs false

set_option maxRecDepth 100000 in
set_option maxHeartbeats 4000000 in
theorem pcl1_c (W : World) (Bd Bb : Nat) (A Ac : Option Addr) (n c nc cc j k : Nat) (R : Spine) (xss : List (List Int)) (r : List Int) (hX : W.cell? ⟨Bd, 1, none⟩ = some (.slice A n c)) (hr : RdM W A c R xss) (hn : xss.length = n)
    (hB : W.cell? ⟨Bb, 0, none⟩ = some (.slice (R k).1 (row xss k).length (R k).2)) (hk : k < n) (hj : j < n) (hcr : RdI W Ac cc r) (hl : r.length = nc) (hp : 0 < nc) (h0 : nth r 0 = (j : Int)) :
    Calls Try.prog 100 #[.slice Ac nc cc, .pointer (some ⟨Bd, 0, none⟩), .pointer (some ⟨Bb, 0, none⟩)] W (PostV W (.bool (decide ((meetL (row xss j) (row xss k)).length = 0)))) := by
  have HMe := Lib.hid (fun (W' : World) (hb : Below W.heap.size W W') => MeetSets_c W' (R j).1 (R k).1 (row xss j).length (row xss k).length (R j).2 (R k).2 (row xss j) (row xss k) ((hr.below hb).rows j (by omega)) rfl ((hr.below hb).rows k (by omega)) rfl)
  obtain ⟨b, off, e, hb, hcl⟩ := hr.open2 (by omega)
  have hcj := hcl j (by omega)
  obtain ⟨b2, off2, e2, hb2, hc2⟩ := hcr.at_ 0 (by omega)
  rw [h0] at hc2
  have hbd := cell_size hX
  have hbb := cell_size hB
  have hj0 : (0 : Int) ≤ (j : Int) := by omega
  have hj1 : (j : Int) < (n : Int) := by omega
  have hp1 : (0 : Int) < (nc : Int) := by omega
  have HML := Lib.hid (show (meetL (row xss j) (row xss k)).length = (meetL (row xss j) (row xss k)).length from rfl)
  have HBd := Lib.hid (show Below W.heap.size W W.drew from (Below.refl _ _).drew)
  subst e e2
  rw [show off2 + 0 = off2 by omega] at hc2
  clear hcl hr hn hcr hl h0
  go_enter Try.func100, Try.ntmps100
  go_wp2
  go_region_held3 (fun w' => w'.cell? ⟨Bd, 1, none⟩ = some (.slice (some ⟨b, off, none⟩) n c) ∧ w'.cell? ⟨Bb, 0, none⟩ = some (.slice (R k).1 (row xss k).length (R k).2) ∧ w'.cell? ⟨b, off + j, none⟩ = some (.slice (R j).1 (row xss j).length (R j).2) ∧ w'.cell? ⟨b2, off2, none⟩ = some (.int .i64 (j : Int)) ∧ w'.cell? ⟨b2, off2, none⟩ = some (.int .i64 (j : Int))) (first | exact ⟨hX, hB, hcj, hc2, hc2⟩ | exact hS4)
    (first | (go_at_call 72; refine (HMe.out W.drew HBd.out).mono ?_; rintro e w4 ⟨⟨A4, n4, c4, rfl, hn4, ho4⟩, hb4⟩; have hS4 := keepP (HBd.out.trans hb4) hbd hbb hb hb2 hb2 ⟨hX, hB, hcj, hc2, hc2⟩))
  go_wp2
  go_ret
  refine ⟨?_, HBd.out.trans hb4⟩
  rw [hn4]
  by_cases h : n4 = 0 <;> simp [h]

set_option maxRecDepth 100000 in
set_option maxHeartbeats 8000000 in
theorem parallelClasses_c (w : World) (P K : Nat) (A : Option Addr) (n c : Nat) (R : Spine) (xss : List (List Int)) (hr : RdM w A c R xss) (hn : xss.length = n) (hD : DsgOk (P : Int) xss) (hI : Inc P xss.length K (lnB xss)) :
    Calls Try.prog 67 #[.agg #[.int .i64 (P : Int), .slice A n c]] w (PostM w (clsTo P xss n)) := by
  have hmf : ∀ (fn : Fn) (first cap : Array Value) (w : World), (Instr.makeFunc fn first cap).run Try.prog w = .ok (.func fn first cap) w := fun _ _ _ _ => rfl
  have hn128 : n ≤ 128 := by have := hD.2.1; omega
  obtain ⟨wa, hwa⟩ : ∃ wa, wa = w.alloc (.cells #[.int .i64 (P : Int), .slice A n c] 31) := ⟨_, rfl⟩
  have hXa : BoxD wa w.heap.size (P : Int) A n c := by rw [hwa]; exact BoxD.made _ _ _ _ _ _
  have hBa : Below w.heap.size w wa := by rw [hwa]; exact below_boxed _ _
  have hsa : w.heap.size + 1 ≤ wa.heap.size := by rw [hwa]; simp
  have HXa := Lib.hid hXa
  have HBa := Lib.hid hBa
  have HR := Lib.hid (hr.below hBa)
  have HN := Lib.hid hn
  have HI := Lib.hid hI
  have HRows := Lib.hid hD.rows
  have HOk := Lib.hid (fun (k : Nat) (hk : k ≤ n) => clsTo_ok hI (k := k) (by omega))
  have eg := Lib.hid (enters_of Try.func100 (by kernel_rfl) rfl : ∀ args w, (callFunc 100 args).run Try.prog w = .ok (.enter 100 args) w)
  have HE0 := Lib.hid (OwnM.nil_ wa wa.heap.size (fun _ => (none, 0)))
  have HEb0 := Lib.hid (Below.refl wa.heap.size wa)
  have HWa := Lib.hid hwa
  clear hr hn hI hD hXa hBa hwa
  go_enter Try.func67, Try.ntmps67
  go_wp2
  rw [← HWa.out]
  go_loopw [3, 10] (fun o v wr => ∃ (k s : Nat) (A' : Option Addr) (c' : Nat) (R' : Spine), k ≤ n ∧ v = .int .i64 k ∧ o = .slice A' s c' ∧ Hid ((clsTo P xss k).length = s) ∧ Hid (OwnM wr wa.heap.size A' c' R' (clsTo P xss k)) ∧ Hid (Below wa.heap.size wa wr)) (fun _ v _ => n - (intOf v).toNat)
  case atStart => exact ⟨0, 0, _, _, _, Nat.zero_le _, rfl, rfl, Lib.hid rfl, HE0, HEb0⟩
  case round =>
    obtain ⟨k, s, A', c', R', hk, rfl, rfl, HS, HO, HB⟩ := hrel
    by_cases hkn : k < n
    · have hsz := HB.out.size
      have hs128 : s ≤ 128 := by have := clsTo_len P xss k; have := HS.out; omega
      have hkx : k < xss.length := by rw [HN.out]; exact hkn
      obtain ⟨b, off, e, hb, hcl⟩ := HR.out.open2 (by omega)
      subst e
      have hck := (HB.out.cell (p := ⟨b, off + k, none⟩) hb).trans (hcl k hkx)
      have hk0 : (0 : Int) ≤ (k : Int) := by omega
      have hk1 : (k : Int) < (n : Int) := by omega
      have hok := HOk.out k (by omega)
      obtain ⟨wb, hwb⟩ : ∃ wb, wb = wr.alloc (.cells #[.slice (R k).1 (row xss k).length (R k).2] 52) := ⟨_, rfl⟩
      have hbr : Below wr.heap.size wr wb := by rw [hwb]; exact (Below.refl _ _).alloc (Nat.le_refl _) _
      have hcb : wb.cell? ⟨wr.heap.size, 0, none⟩ = some (.slice (R k).1 (row xss k).length (R k).2) := by rw [hwb]; simp [go_sem]
      have hBb : Below wa.heap.size wa wb := HB.out.trans (hbr.mono hsz)
      have hOb := HO.out.below hbr
      have hIx := indexFuncM wb A' s c' R' (clsTo P xss k) 100 #[.pointer (some ⟨w.heap.size, 0, none⟩), .pointer (some ⟨wr.heap.size, 0, none⟩)] (fun i => decide ((meetL (row xss (cN (clsTo P xss k) i 0)) (row xss k)).length = 0)) eg.out hOb.rd HS.out (fun W2 i hi hb2 => by
        have hi' : i < (clsTo P xss k).length := by rw [HS.out]; exact hi
        have hm := hok.mem i hi' 0 (hok.ne i hi')
        exact pcl1_c W2 w.heap.size wr.heap.size (some ⟨b, off, none⟩) _ n c _ _ (cN (clsTo P xss k) i 0) k R xss (row (clsTo P xss k) i) ((HXa.out.below (hBb.trans (hb2.mono hBb.size))).c1) (HR.out.below (hBb.trans (hb2.mono hBb.size))) HN.out ((hb2.cell (p := ⟨wr.heap.size, 0, none⟩) (cell_size hcb)).trans hcb) hkn (by omega) ((hOb.rd.below hb2).rows i hi') rfl (hok.ne i hi') hm.1)
      rw [firstIdx_congr (q := clsP P xss (clsTo P xss k) k) (fun i hi => by
        have hi' : i < (clsTo P xss k).length := by rw [HS.out]; exact hi
        exact dj_meet HRows.out (by have := (hok.mem i hi' 0 (hok.ne i hi')).2; omega) hkx)] at hIx
      rcases firstIdx_case (clsP P xss (clsTo P xss k) k) s with ⟨e, hno⟩ | ⟨c0, hc0, e, hyes⟩
      · rw [e] at hIx
        have HIx := Lib.hid hIx
        have HNew := Lib.hid (show (clsTo P xss k ++ [[]]).length = s + 1 ∧ (clsTo P xss k ++ [[]]).set s (row (clsTo P xss k ++ [[]]) s ++ [(k : Int)]) = clsTo P xss (k + 1) ∧ (row (clsTo P xss k ++ [[]]) s).length ≤ 128 from by
          refine ⟨by rw [List.length_append, HS.out]; rfl, ?_, ?_⟩
          · rw [clsTo, clsNext_new (by rw [HS.out]; exact e), ← HS.out, row_append_eq]; simp
          · rw [← HS.out, row_append_eq]; simp)
        have HXn := Lib.hid (show s < (clsTo P xss k ++ [[]]).length by have := HNew.out.1; omega)
        have HOb := Lib.hid hOb
        have HBb := Lib.hid hBb
        clear hIx e hno hok hcl hcb hbr hOb hBb hkx
        go_wp2_with fail
        rw [← hwb]
        refine (HIx.out).mono ?_
        rintro e w4 ⟨rfl, hb4⟩
        have HO4 := Lib.hid (HOb.out.below hb4)
        have HB4 := Lib.hid (HBb.out.trans (hb4.mono HBb.out.size))
        have hs4 := HB4.out.size
        have HE4 := Lib.hid (HO4.out.alloc (.cells #[.slice none 0 0] 52))
        have HB4a := Lib.hid (HB4.out.alloc hs4 (.cells #[.slice none 0 0] 52))
        clear hb4 hwb
        go_wp2_with (at_builtin; refine wpM_append rfl _ _ rfl wa.heap.size _ _ _ R' (clsTo P xss k) none 0 0 [] w4.heap.size rfl rfl HS.out rfl HE4.out (OwnI.nil_ _ _) (fun k hk g e e2 => by cases e2) (World.cell?_alloc_at _ _ _ _ rfl) (by omega) (by simp; omega) ?_; intro A5 c5 R5 w5 ho5 hg5 ha5; refine stopP ?_)
        have HB5 := Lib.hid (HB4a.out.trans (below_blkM HE4.out hg5 (Nat.le_refl _) (by simp; omega)))
        have HO5 := Lib.hid ho5
        clear ho5 hg5 ha5
        refine Lib.hid ?_
        have hszX : wa.heap.size ≤ w5.heap.size := HB5.out.size
        obtain ⟨g1, eg1, hlo1, _, hcx, hfx⟩ := HO5.out.at_ HXn.out
        have HRx := Lib.hid (HO5.out.rows _ HXn.out)
        obtain ⟨t, ht⟩ : ∃ t, t = (row (clsTo P xss k ++ [[]]) s).length := ⟨_, rfl⟩
        have HLx := Lib.hid (show (clsTo P xss k ++ [[]]).length = (s + 1) from HNew.out.1)
        have HNx := Lib.hid (show (clsTo P xss k ++ [[]]).set s (row (clsTo P xss k ++ [[]]) s ++ [(k : Int)]) = clsTo P xss (k + 1) from HNew.out.2.1)
        have htl : t ≤ 128 := by rw [ht]; exact HNew.out.2.2
        rw [← ht] at hcx
        have HT := Lib.hid ht.symm
        subst eg1
        have HO7 := Lib.hid (HO5.out.alloc (.cells #[.int .i64 (k : Int)] 2))
        have hix0 : (0 : Int) ≤ (s : Int) := by omega
        have hix1 : (s : Int) < ((s + 1) : Int) := by omega
        clear ht
        generalize row (clsTo P xss k ++ [[]]) s = rx at *
        go_wp2_with (at_builtin; refine wpI_append rfl _ _ rfl wa.heap.size _ _ _ rx (k : Int) w5.heap.size rfl rfl HT.out (HRx.out.alloc (.cells #[.int .i64 (k : Int)] 2)) (World.cell?_alloc_at _ _ _ _ rfl) (by omega) (by simp; omega) ?_; intro A3 c3 w7 ho7 hg7 ha7; obtain ⟨hcx7, hfx7⟩ := HO7.out.outer_at HXn.out hg7)
        have HB7 := Lib.hid (show Below wa.heap.size wa w7 from (HB5.out.alloc hszX (.cells #[.int .i64 (k : Int)] 2)).trans (below_blk (HRx.out.alloc (.cells #[.int .i64 (k : Int)] 2)) hg7 (Nat.le_refl _) (by simp; omega)))
        have hpr := HO7.out.put_row HXn.out hg7 ho7 ha7
        rw [List.length_append, HT.out] at hpr
        have HO8 := Lib.hid (show OwnM (w7.setCell ⟨g1, s, none⟩ (.slice A3 (t + 1) c3)) wa.heap.size (some ⟨g1, 0, none⟩) _ _ (clsTo P xss (k + 1)) from by rw [← HNx.out]; exact hpr)
        have HS8 := Lib.hid (show (clsTo P xss (k + 1)).length = (s + 1) from by rw [← HNx.out, List.length_set]; exact HLx.out)
        have HB8 := Lib.hid (HB7.out.setCell (p := ⟨g1, s, none⟩) hlo1 (.slice A3 (t + 1) c3))
        clear hpr ho7 hg7 ha7
        go_wp2
        go_roundw
        case rel => exact ⟨k + 1, s + 1, _, _, _, by omega, by go_num, rfl, HS8, HO8, HB8⟩
        case measure => simp [intOf]; omega
      · rw [e] at hIx
        have HIx := Lib.hid hIx
        have hc0' : c0 < (clsTo P xss k).length := by rw [HS.out]; exact hc0
        have HNew := Lib.hid (show (clsTo P xss k).length = s ∧ (clsTo P xss k).set c0 (row (clsTo P xss k) c0 ++ [(k : Int)]) = clsTo P xss (k + 1) ∧ (row (clsTo P xss k) c0).length ≤ 128 from by
          refine ⟨HS.out, ?_, ?_⟩
          · rw [clsTo, clsNext_old (by rw [HS.out]; exact e)]
          · have := row_le_tot hc0'; have := clsTo_tot P xss k; omega)
        have HXn := Lib.hid hc0'
        have HOb := Lib.hid hOb
        have HBb := Lib.hid hBb
        clear hIx e hyes hok hcl hcb hbr hOb hBb hkx hc0'
        go_wp2_with fail
        rw [← hwb]
        refine (HIx.out).mono ?_
        rintro e w5 ⟨rfl, hb4⟩
        have HO5 := Lib.hid (HOb.out.below hb4)
        have HB5 := Lib.hid (HBb.out.trans (hb4.mono HBb.out.size))
        clear hb4 hwb
        have hszX : wa.heap.size ≤ w5.heap.size := HB5.out.size
        obtain ⟨g1, eg1, hlo1, _, hcx, hfx⟩ := HO5.out.at_ HXn.out
        have HRx := Lib.hid (HO5.out.rows _ HXn.out)
        obtain ⟨t, ht⟩ : ∃ t, t = (row (clsTo P xss k) c0).length := ⟨_, rfl⟩
        have HLx := Lib.hid (show (clsTo P xss k).length = s from HNew.out.1)
        have HNx := Lib.hid (show (clsTo P xss k).set c0 (row (clsTo P xss k) c0 ++ [(k : Int)]) = clsTo P xss (k + 1) from HNew.out.2.1)
        have htl : t ≤ 128 := by rw [ht]; exact HNew.out.2.2
        rw [← ht] at hcx
        have HT := Lib.hid ht.symm
        subst eg1
        have HO7 := Lib.hid (HO5.out.alloc (.cells #[.int .i64 (k : Int)] 2))
        have hix0 : (0 : Int) ≤ (c0 : Int) := by omega
        have hix1 : (c0 : Int) < (s : Int) := by omega
        clear ht
        generalize row (clsTo P xss k) c0 = rx at *
        go_wp2_with (at_builtin; refine wpI_append rfl _ _ rfl wa.heap.size _ _ _ rx (k : Int) w5.heap.size rfl rfl HT.out (HRx.out.alloc (.cells #[.int .i64 (k : Int)] 2)) (World.cell?_alloc_at _ _ _ _ rfl) (by omega) (by simp; omega) ?_; intro A3 c3 w7 ho7 hg7 ha7; obtain ⟨hcx7, hfx7⟩ := HO7.out.outer_at HXn.out hg7)
        have HB7 := Lib.hid (show Below wa.heap.size wa w7 from (HB5.out.alloc hszX (.cells #[.int .i64 (k : Int)] 2)).trans (below_blk (HRx.out.alloc (.cells #[.int .i64 (k : Int)] 2)) hg7 (Nat.le_refl _) (by simp; omega)))
        have hpr := HO7.out.put_row HXn.out hg7 ho7 ha7
        rw [List.length_append, HT.out] at hpr
        have HO8 := Lib.hid (show OwnM (w7.setCell ⟨g1, c0, none⟩ (.slice A3 (t + 1) c3)) wa.heap.size (some ⟨g1, 0, none⟩) _ _ (clsTo P xss (k + 1)) from by rw [← HNx.out]; exact hpr)
        have HS8 := Lib.hid (show (clsTo P xss (k + 1)).length = s from by rw [← HNx.out, List.length_set]; exact HLx.out)
        have HB8 := Lib.hid (HB7.out.setCell (p := ⟨g1, c0, none⟩) hlo1 (.slice A3 (t + 1) c3))
        clear hpr ho7 hg7 ha7
        go_wp2
        go_roundw
        case rel => exact ⟨k + 1, s, _, _, _, by omega, by go_num, rfl, HS8, HO8, HB8⟩
        case measure => simp [intOf]; omega
    · obtain rfl : k = n := by omega
      have HBf := Lib.hid (HBa.out.trans (HB.out.mono HBa.out.size))
      go_wp2
      go_ret
      exact ⟨⟨A', s, c', R', rfl, HS.out, HO.out.lower (by omega)⟩, HBf.out⟩

set_option maxRecDepth 100000 in
set_option maxHeartbeats 8000000 in
theorem implParallelClasses_c (w : World) (p : Int) (hp : -9223372036854775808 ≤ p ∧ p ≤ 9223372036854775807) (A : Option Addr) (n c : Nat) (R : Spine) (xss : List (List Int)) (hr : RdM w A c R xss) (hn : xss.length = n) (hw : WfM xss) (hz : (n : Int) + (tot xss : Nat) ≤ 1048576) :
    Calls Try.prog 28 #[.agg #[.int .i64 p, .slice A n c]] w (PostMC w (pcX p xss) (pcC p xss)) := by
  obtain ⟨wa, hwa⟩ : ∃ wa, wa = w.alloc (.cells #[.int .i64 p, .slice A n c] 31) := ⟨_, rfl⟩
  have hXa : BoxD wa w.heap.size p A n c := by rw [hwa]; exact BoxD.made _ _ _ _ _ _
  have hBa : Below w.heap.size w wa := by rw [hwa]; exact below_boxed _ _
  have hsa : w.heap.size + 1 ≤ wa.heap.size := by rw [hwa]; simp
  have HXa := Lib.hid hXa
  have HBa := Lib.hid hBa
  have hO := ValidDesign_c wa p A n c R xss (hr.below hBa) hn
  rw [hwa] at hO
  rcases hd : dsgB p xss with _ | _
  · rw [hd] at hO
    have h1 : pcC p xss = 1 := if_neg (by rw [hd]; simp)
    rw [show pcX p xss = [] from if_neg (by omega), h1]
    have HO := Lib.hid hO
    have HWa := Lib.hid hwa
    clear hO hwa hXa hBa hr hn hp hd h1 hw hz
    go_enter Try.func28, Try.ntmps28
    go_wp2_with fail
    refine (HO.out).mono ?_
    rintro e w2 ⟨rfl, hb2⟩
    rw [← HWa.out] at hb2
    have HB2 := Lib.hid (HBa.out.trans (hb2.mono HBa.out.size))
    clear hb2
    go_wp2
    go_ret2
    exact ⟨⟨none, 0, 0, fun _ => (none, 0), rfl, rfl, OwnM.nil_ _ _ _⟩, HB2.out⟩
  have HAf := Lib.hid (fun (W : World) (hb : Below w.heap.size w W) => implAffineOrder_c W p hp A n c R xss (hr.below hb) hn hw hz)
  rw [hd] at hO
  have HO := Lib.hid hO
  have HWa := Lib.hid hwa
  by_cases ha : affI p xss = 0
  · have h1 : pcC p xss = 6 := (if_pos hd).trans (if_pos ha)
    rw [show pcX p xss = [] from if_neg (by omega), h1]
    rw [ha] at HAf
    clear hO hwa hXa hBa hr hn hp hd h1 hw hz ha
    go_enter Try.func28, Try.ntmps28
    go_wp2_with fail
    refine (HO.out).mono ?_
    rintro e w2 ⟨rfl, hb2⟩
    rw [← HWa.out] at hb2
    have HB2 := Lib.hid (HBa.out.trans (hb2.mono HBa.out.size))
    have hx2 := HXa.out.below hb2
    have hc0 := hx2.c0
    have hc1 := hx2.c1
    clear hb2 hx2
    go_wp2_with fail
    refine (HAf.out _ HB2.out).mono ?_
    rintro e w3 ⟨rfl, hb3⟩
    have HB3 := Lib.hid (HB2.out.trans (hb3.mono HB2.out.size))
    clear hb3
    go_wp2
    go_ret2
    exact ⟨⟨none, 0, 0, fun _ => (none, 0), rfl, rfl, OwnM.nil_ _ _ _⟩, HB3.out⟩
  · have h1 : pcC p xss = 0 := (if_pos hd).trans (if_neg ha)
    obtain ⟨P, rfl, hD, hK, hI, hX⟩ := pc_facts h1
    rw [hX, h1, hn]
    have HPc := Lib.hid (fun (W : World) (hb : Below w.heap.size w W) => parallelClasses_c W P _ A n c R xss (hr.below hb) hn hD hI)
    have hK0 : (affI (P : Int) xss == 0) = false := by simp; exact ha
    generalize affI (P : Int) xss = af at *
    generalize clsTo P xss n = C at *
    clear hO hwa hXa hBa hr hn hp hd h1 hw hz hK hI hD hX
    go_enter Try.func28, Try.ntmps28
    go_wp2_with fail
    refine (HO.out).mono ?_
    rintro e w2 ⟨rfl, hb2⟩
    rw [← HWa.out] at hb2
    have HB2 := Lib.hid (HBa.out.trans (hb2.mono HBa.out.size))
    have HX2 := Lib.hid (HXa.out.below hb2)
    have hc0 := HX2.out.c0
    have hc1 := HX2.out.c1
    clear hb2
    go_wp2_with fail
    refine (HAf.out _ HB2.out).mono ?_
    rintro e w3 ⟨rfl, hb3⟩
    have HB3 := Lib.hid (HB2.out.trans (hb3.mono HB2.out.size))
    have hx3 := HX2.out.below hb3
    have hc0 := hx3.c0
    have hc1 := hx3.c1
    clear hb3 hx3
    go_wp2_with fail
    refine (HPc.out _ HB3.out).mono ?_
    rintro e w4 ⟨⟨A4, n4, c4, R4, rfl, hn4, ho4⟩, hb4⟩
    have HB4 := Lib.hid (HB3.out.trans (hb4.mono HB3.out.size))
    have HO4 := Lib.hid (ho4.lower (lo' := w.heap.size) HB3.out.size)
    have HN4 := Lib.hid hn4
    clear hb4 ho4 hn4
    go_wp2
    go_ret2
    exact ⟨⟨A4, n4, c4, R4, rfl, HN4.out, HO4.out⟩, HB4.out⟩
end Go.Proofs.Ytcdbbcnoleilfaa
