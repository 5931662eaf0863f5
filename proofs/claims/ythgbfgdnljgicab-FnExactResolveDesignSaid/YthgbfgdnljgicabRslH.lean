/-
  The program's search for a resolution whole, and ResolveDesign. Conditions: those of each theorem.
-/
import Derived.Test.YthgbfgdnljgicabRslF
import Derived.Test.YthgbfgdnljgicabRslG
import Derived.Test.YthgbfgdnljgicabDFrame
namespace Go.Proofs.Ythgbfgdnljgicab
open Go.RowKit
set_option linter.unusedVariables false
set_option linter.unusedSimpArgs false

theorem beg_all (w0 : World) {g P : Nat} {A : Option Addr} {n c gu : Nat} {R : Spine} {xss : List (List Int)} (hg : w0.heap.size ≤ g) (hr : RdM w0 A c R xss) (hn : xss.length = n) (hD : DsgOk (P : Int) xss) : ∀ f, BegAt w0 g P A n c gu xss f ∧ ExtAt w0 g P A n c gu xss f
  | 0 => ⟨fun _ _ _ _ _ _ _ _ _ _ h => absurd h (by omega), fun _ _ _ _ _ _ _ _ _ h => absurd h (by omega)⟩
  | f + 1 => by
    obtain ⟨h1, h2⟩ := beg_all w0 hg hr hn hD f
    exact ⟨begin_step w0 hg hr hn hD h2, ext_step w0 hg hr hn hD h1 h2⟩
theorem heap_new (W : World) (o : Obj) : (W.alloc o).heap[W.heap.size]? = some o := by
  show (W.heap.push o)[W.heap.size]? = some o
  simp
/-- The first j classes in order. -/
def srtTo (cs : List (List Int)) (j : Nat) : List (List Int) := (cs.take j).map sortL ++ cs.drop j
theorem srtTo_zero (cs : List (List Int)) : srtTo cs 0 = cs := by simp [srtTo]
theorem srtTo_all {cs : List (List Int)} {j : Nat} (h : cs.length = j) : srtTo cs j = cs.map sortL := by simp [srtTo, ← h]
theorem srtTo_len (cs : List (List Int)) (j : Nat) : (srtTo cs j).length = cs.length := by simp [srtTo]; omega
theorem srtTo_row {cs : List (List Int)} {j : Nat} (h : j < cs.length) : row (srtTo cs j) j = row cs j := by
  unfold row srtTo
  rw [List.getElem?_append_right (by simp; omega)]
  simp [Nat.min_eq_left (Nat.le_of_lt h)]
theorem srtTo_set {cs : List (List Int)} {j : Nat} (h : j < cs.length) : (srtTo cs j).set j (sortL (row cs j)) = srtTo cs (j + 1) := by
  unfold srtTo
  rw [take_row h, List.map_append, List.set_append_right _ _ (by simp; omega)]
  simp only [List.length_map, List.length_take, Nat.min_eq_left (Nat.le_of_lt h), Nat.sub_self]
  rw [List.drop_eq_getElem_cons h, List.set_cons_zero, List.append_assoc]
  rfl

theorem isBudget_c (b : Int) (w : World) : Calls Try.prog 19 #[.int .i64 b] w fun e w' => e = .returned (.bool (bdB b)) ∧ w = w' := by
  have HC := Lib.hid (within_c b 1 20000 w)
  rw [show bdB b = inB b 1 20000 from rfl]
  go_enter Try.func19, Try.ntmps19
  go_wp2_with fail
  refine (HC.out).mono ?_
  rintro e w2 ⟨rfl, rfl⟩
  go_wp2
  go_ret
  exact ⟨rfl, rfl⟩

set_option maxRecDepth 100000 in
set_option maxHeartbeats 16000000 in
theorem implResolveDesign_c (w : World) (p : Int) (hp : -9223372036854775808 ≤ p ∧ p ≤ 9223372036854775807) (A : Option Addr) (n c : Nat) (R : Spine) (xss : List (List Int)) (hr : RdM w A c R xss) (hn : xss.length = n) (hw : WfM xss) (hz : (n : Int) + (tot xss : Nat) ≤ 1048576)
    (b : Int) (hbb : -9223372036854775808 ≤ b ∧ b ≤ 9223372036854775807) :
    Calls Try.prog 7 #[.agg #[.int .i64 p, .slice A n c], .int .i64 b] w (PostMC w (rsX p xss b) (rsC p xss b)) := by
  clear hw hz hbb hp
  obtain ⟨wa, hwa⟩ : ∃ wa, wa = w.alloc (.cells #[.int .i64 p, .slice A n c] 28) := ⟨_, rfl⟩
  have hXa : BoxD wa w.heap.size p A n c := by rw [hwa]; exact BoxD.made _ _ _ _ _ _
  have hBa : Below w.heap.size w wa := by rw [hwa]; exact below_boxed _ _
  have HXa := Lib.hid hXa
  have HBa := Lib.hid hBa
  have hO := ValidDesign_c wa p A n c R xss (hr.below hBa) hn
  rw [hwa] at hO
  rcases hd : dsgB p xss with _ | _
  · rw [hd] at hO
    have h1 : rsC p xss b = 1 := if_neg (by rw [hd]; simp)
    rw [show rsX p xss b = [] from if_neg (by rw [hd]; simp), h1]
    have HO := Lib.hid hO
    have HWa := Lib.hid hwa
    clear hO hwa hXa hBa hr hn hd h1
    go_enter Try.func7, Try.ntmps7
    go_wp2_with fail
    refine (HO.out).mono ?_
    rintro e w2 ⟨rfl, hb2⟩
    rw [← HWa.out] at hb2
    have HB2 := Lib.hid (HBa.out.trans (hb2.mono HBa.out.size))
    clear hb2
    go_wp2
    go_ret2
    exact ⟨⟨none, 0, 0, fun _ => (none, 0), rfl, rfl, OwnM.nil_ _ _ _⟩, HB2.out⟩
  rw [hd] at hO
  have hD := dsgB_true.1 hd
  obtain ⟨P, rfl⟩ : ∃ P : Nat, p = (P : Int) := ⟨p.toNat, by have := hD.1.1; omega⟩
  have HO := Lib.hid hO
  have HWa := Lib.hid hwa
  have HBd := Lib.hid (fun (W : World) => isBudget_c b W)
  rcases hbd : bdB b with _ | _
  · have h1 : rsC (P : Int) xss b = 2 := by unfold rsC; rw [if_pos hd, if_neg (by rw [hbd]; simp)]
    rw [show rsX (P : Int) xss b = [] from by unfold rsX; rw [if_pos hd, if_neg (by rw [hbd]; simp)], h1]
    rw [hbd] at HBd
    clear hO hwa hXa hBa hr hn hd h1 hD hbd
    go_enter Try.func7, Try.ntmps7
    go_wp2_with fail
    refine (HO.out).mono ?_
    rintro e w2 ⟨rfl, hb2⟩
    rw [← HWa.out] at hb2
    have HB2 := Lib.hid (HBa.out.trans (hb2.mono HBa.out.size))
    clear hb2
    go_wp2_with fail
    refine (HBd.out _).mono ?_
    rintro e w3 ⟨rfl, rfl⟩
    go_wp2
    go_ret2
    exact ⟨⟨none, 0, 0, fun _ => (none, 0), rfl, rfl, OwnM.nil_ _ _ _⟩, HB2.out⟩
  rw [hbd] at HBd
  have hb1 := of_decide_eq_true hbd
  obtain ⟨l, rfl⟩ : ∃ l : Nat, b = (l : Int) := ⟨b.toNat, by omega⟩
  have hn128 : n ≤ 128 := by have := hD.2.1; omega
  have hl : l ≤ 20000 := by omega
  have HBe := Lib.hid (fun (W : World) (g gu : Nat) (hg : w.heap.size ≤ g) (h : BgW w W W g l false P A n c gu none 0 0 (fun _ => (none, 0)) [] (covV n (rsU [] [])) (.slice none 0 0)) =>
    (show Calls Try.prog 20 #[.pointer (some ⟨g, 0, none⟩)] W (BegPost w W g P A n c gu [] (.slice none 0 0) (rsF (P : Int) xss (l : Int))) from
      (beg_all w (gu := gu) hg hr hn hD (2 * xss.length + 1)).1 W [] l none 0 (fun _ => (none, 0)) none 0 0 (rsOk_start xss) (by simp [rsM, rsU]) hl h))
  have HYes := Lib.hid (fun (cs : List (List Int)) (h : rsF (P : Int) xss (l : Int) = .yes cs) => (show cs.length ≤ 128 ∧ ∀ j, j < cs.length → (row cs j).length ≤ 128 from by
    have h1 := (srch_yes (dsg_rowsNodup hD) _ _ _ _ (rsOk_start xss) h).small
    refine ⟨by omega, fun j hj => ?_⟩
    have h2 := row_le_tot hj
    have h3 : tot cs = cs.flatten.length := by unfold tot; rw [List.length_flatten]
    omega))
  have HC := Lib.hid (show rsC (P : Int) xss (l : Int) = (match rsF (P : Int) xss (l : Int) with | .yes _ => 0 | .no _ => 3 | .full => 5) from by unfold rsC; rw [if_pos hd, if_pos hbd]; rfl)
  have HX := Lib.hid (show rsX (P : Int) xss (l : Int) = (match rsF (P : Int) xss (l : Int) with | .yes cs => cs.map sortL | .no _ => [] | .full => []) from by unfold rsX; rw [if_pos hd, if_pos hbd]; rfl)
  have hl1 : 1 ≤ l := by omega
  clear hO hwa hXa hBa hr hn hd hD hbd hb1
  go_enter Try.func7, Try.ntmps7
  go_wp2_with fail
  refine (HO.out).mono ?_
  rintro e w2 ⟨rfl, hb2⟩
  rw [← HWa.out] at hb2
  have HB2 := Lib.hid (HBa.out.trans (hb2.mono HBa.out.size))
  have hx := HXa.out.below hb2
  have hc0 := hx.c0
  have hc1 := hx.c1
  have hclt : w.heap.size < w2.heap.size := hx.lt
  have hca0 := ((below_boxed w2 (.cells (madeCells #[.bool false] n) 4)).cell (p := ⟨w.heap.size, 0, none⟩) hclt).trans hc0
  have hca1 := ((below_boxed w2 (.cells (madeCells #[.bool false] n) 4)).cell (p := ⟨w.heap.size, 1, none⟩) hclt).trans hc1
  clear hb2 hx
  go_wp2_with fail
  refine (HBd.out _).mono ?_
  rintro e w3 ⟨rfl, rfl⟩
  have hmk : ∀ W : World, (Instr.makeSlice 39 (.int .i64 (n : Int)) (.int .i64 (n : Int))).run Try.prog W = .ok (.slice (some ⟨W.heap.size, 0, none⟩) n n) (W.alloc (.cells (madeCells #[.bool false] n) 4)) := fun W => by
    obtain ⟨i, hi, hz, hz1, hz2⟩ := info_parts infoB
    have := run_makeSlice (P := Try.prog) (w := W) 39 4 i (.bool false) Try.underlying39 hi hz .i64 .i64 (n : Int) (n : Int) (by omega) (Int.le_refl _) (by rw [hz1]; omega) (by rw [hz2]; omega) (by omega)
    rw [hz1] at this
    simp only [Int.toNat_natCast, Nat.mul_one] at this
    exact this
  go_wp2
  go_cut [6] (fun s6 wx => ∃ g gu : Nat, s6 = .pointer (some ⟨g, 0, none⟩) ∧ w.heap.size ≤ g ∧ Hid (BgW w wx wx g l false P A n c gu none 0 0 (fun _ => (none, 0)) [] (covV n (rsU [] [])) (.slice none 0 0)))
  case first =>
    have HW := Lib.hid (show BgW w ((w2.alloc (.cells (madeCells #[.bool false] n) 4)).alloc (rsObj l false P A n c w2.heap.size none 0 0 (.slice none 0 0))).drew ((w2.alloc (.cells (madeCells #[.bool false] n) 4)).alloc (rsObj l false P A n c w2.heap.size none 0 0 (.slice none 0 0))).drew (w2.heap.size + 1) l false P A n c w2.heap.size none 0 0 (fun _ => (none, 0)) [] (covV n (rsU [] [])) (.slice none 0 0) from by
      have hm := OwnB.made w2 n (by unfold maxLen; omega) (lo := w.heap.size) HB2.out.size
      rw [← covV_nil] at hm
      refine ⟨?_, hm.alloc _, OwnM.nil_ _ _ _, ((HB2.out.alloc HB2.out.size _).alloc (by have := HB2.out.size; simp; omega) _).drew, Fr.refl _ _ _ _⟩
      have := heap_new (w2.alloc (.cells (madeCells #[.bool false] n) 4)) (rsObj l false P A n c w2.heap.size none 0 0 (.slice none 0 0))
      rw [show (w2.alloc (.cells (madeCells #[.bool false] n) 4)).heap.size = w2.heap.size + 1 from World.size_alloc _ _] at this
      exact this)
    go_region
    all_goals (go_wp2_with fail; go_meet)
    all_goals exact ⟨w2.heap.size + 1, w2.heap.size, rfl, by omega, HW⟩
  case rest =>
    obtain ⟨g, gu, rfl, hg, HBg⟩ := hcut
    have HBb := Lib.hid (HBe.out wc g gu hg HBg.out)
    have HBl := Lib.hid HBg.out.bl
    clear hc0 hc1 hca0 hca1 hmk
    rcases hf : rsF (P : Int) xss (l : Int) with cs | l' | _
    · obtain ⟨hcs, hrw⟩ := HYes.out cs hf
      have hX := HX.out
      have hC := HC.out
      have hB := HBb.out
      rw [hf] at hX hC hB
      have HXe := Lib.hid hX
      have HCe := Lib.hid hC
      have HBb2 := Lib.hid hB
      have HRw := Lib.hid hrw
      obtain ⟨s, hs⟩ : ∃ s, s = cs.length := ⟨_, rfl⟩
      have HLs := Lib.hid hs.symm
      rw [← hs] at hcs
      clear hX hC hB hf hrw hs
      go_wp2_with fail
      refine (HBb2.out).mono ?_
      rintro e w4 ⟨rfl, hfr, hbl, l4, K4, kc4, R4, cv4, hob, hks⟩
      rw [HLs.out] at hob
      obtain ⟨_, r1, _, _, _, r5, _⟩ := rs_cells hob
      have HOb := Lib.hid hob
      have HKs := Lib.hid (show OwnM w4 w.heap.size K4 kc4 R4 (srtTo cs 0) from by rw [srtTo_zero]; exact hks)
      have HB4 := Lib.hid hbl
      clear hfr hbl hob hks
      go_wp2
      go_loopw [41] (fun v wr => ∃ j : Nat, j ≤ s ∧ v = .int .i64 j ∧ Hid (wr.heap[g]? = some (rsObj l4 false P A n c gu K4 s kc4 cv4)) ∧ Hid (OwnM wr w.heap.size K4 kc4 R4 (srtTo cs j)) ∧ Hid (Below w.heap.size w wr)) (fun v _ => s - (intOf v).toNat)
      case atStart => exact ⟨0, Nat.zero_le _, rfl, HOb, HKs, HB4⟩
      case round =>
        obtain ⟨j, hj, rfl, HOb, HKs, HB5⟩ := hrel
        by_cases hjs : j < s
        · have hjx : j < cs.length := by rw [HLs.out]; exact hjs
          have hjy : j < (srtTo cs j).length := by rw [srtTo_len]; exact hjx
          obtain ⟨G, eG, hG0, hG1, hcG, _⟩ := HKs.out.at_ hjy
          subst eG
          have hrow := HKs.out.rows j hjy
          rw [srtTo_row hjx] at hcG hrow
          obtain ⟨m, hm⟩ : ∃ m, m = (row cs j).length := ⟨_, rfl⟩
          rw [← hm] at hcG
          have hm128 : m ≤ 128 := by rw [hm]; exact HRw.out j hjx
          have HSo := Lib.hid (sort_c wr hrow (n := m) hm.symm (by omega))
          have HTu := Lib.hid (fun (w5 : World) (ho : OwnI w5 w.heap.size (R4 j).1 (R4 j).2 (sortL (row cs j))) (hg5 : wr.grownBy w5 (blk (R4 j).1)) => (show OwnM w5 w.heap.size (some ⟨G, 0, none⟩) kc4 R4 (srtTo cs (j + 1)) from by
            rw [← srtTo_set hjx]
            exact HKs.out.row_turned hjy (by rw [srtTo_row hjx, sortL_len]) ho hg5))
          have HRw2 := Lib.hid hrow
          have hj0 : (0 : Int) ≤ (j : Int) := by omega
          have hj1 : (j : Int) < (s : Int) := by omega
          clear hrow hm
          go_wp2_with fail
          refine (HSo.out).mono ?_
          rintro e w5 ⟨rfl, ho5, hg5⟩
          have HO5 := Lib.hid (HTu.out w5 ho5 hg5)
          have HOb5 := Lib.hid (rs_row HOb.out HRw2.out (by decide) hg5)
          have HB6 := Lib.hid (HB5.out.trans (below_blk HRw2.out hg5 (Nat.le_refl _) HB5.out.size))
          clear ho5 hg5 hcG
          go_wp2
          go_roundw
          case rel => exact ⟨j + 1, by omega, by go_num, HOb5, HO5, HB6⟩
          case measure => simp [intOf]; omega
        · obtain rfl : j = s := by omega
          obtain ⟨_, _, _, _, _, t5, _⟩ := rs_cells HOb.out
          have HKf := Lib.hid (show OwnM wr w.heap.size K4 kc4 R4 (cs.map sortL) from by rw [← srtTo_all HLs.out]; exact HKs.out)
          have HLf := Lib.hid (show (cs.map sortL).length = j from by rw [List.length_map]; exact HLs.out)
          go_wp2
          go_ret2
          rw [HXe.out, HCe.out]
          exact ⟨⟨K4, j, kc4, R4, rfl, HLf.out, HKf.out⟩, HB5.out⟩
    · skip
      have hX := HX.out
      have hC := HC.out
      have hB := HBb.out
      rw [hf] at hX hC hB
      have HXe := Lib.hid hX
      have HCe := Lib.hid hC
      have HBb2 := Lib.hid hB
      clear hX hC hB hf
      go_wp2_with fail
      refine (HBb2.out).mono ?_
      rintro e w4 ⟨rfl, K4, kc4, R4, h4⟩
      obtain ⟨_, r1, _, _, _, r5, _⟩ := rs_cells h4.ob
      have HB4 := Lib.hid h4.bl
      clear h4
      go_wp2
      go_ret2
      rw [HXe.out, HCe.out]
      exact ⟨⟨none, 0, 0, fun _ => (none, 0), rfl, rfl, OwnM.nil_ _ _ _⟩, HB4.out⟩
    · skip
      have hX := HX.out
      have hC := HC.out
      have hB := HBb.out
      rw [hf] at hX hC hB
      have HXe := Lib.hid hX
      have HCe := Lib.hid hC
      have HBb2 := Lib.hid hB
      clear hX hC hB hf
      go_wp2_with fail
      refine (HBb2.out).mono ?_
      rintro e w4 ⟨rfl, K4, kc4, R4, h4⟩
      obtain ⟨_, r1, _, _, _, r5, _⟩ := rs_cells h4.ob
      have HB4 := Lib.hid h4.bl
      clear h4
      go_wp2
      go_ret2
      rw [HXe.out, HCe.out]
      exact ⟨⟨none, 0, 0, fun _ => (none, 0), rfl, rfl, OwnM.nil_ _ _ _⟩, HB4.out⟩
end Go.Proofs.Ythgbfgdnljgicab
