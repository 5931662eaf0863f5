/-
  The reference's search for a resolution whole, and ResolveDesign. Conditions: those of each theorem.
-/
import Derived.Test.YthgbfgdnljgicabRslT
import Derived.Test.YthgbfgdnljgicabRslU
import Derived.Test.YthgbfgdnljgicabRslV
import Derived.Test.YthgbfgdnljgicabDFrame
namespace Go.Proofs.Ythgbfgdnljgicab
open Go.RowKit
set_option linter.unusedVariables false
set_option linter.unusedSimpArgs false

theorem run_all (w0 : World) {g P : Nat} {A : Option Addr} {n c gu bud : Nat} {R : Spine} {xss : List (List Int)} (hg : w0.heap.size ≤ g) (hr : RdM w0 A c R xss) (hn : xss.length = n) (hD : DsgOk (P : Int) xss) (hb2 : bud ≤ 20000) : ∀ f, RunAt w0 g P A n c gu bud xss f
  | 0 => fun _ _ _ _ _ _ _ _ _ _ _ h => absurd h (by omega)
  | f + 1 => by
    have hR := run_all w0 (g := g) (gu := gu) hg hr hn hD hb2 f
    have hn128 : n ≤ 128 := by have := hD.2.1; omega
    have hP32 : P ≤ 32 := by have := hD.1.2; omega
    intro w done cls left nodes K kc Rk A5 c5 hok hm hl h hc
    by_cases hcs : cls = []
    · subst hcs
      exact run_begin w0 hR hg hn hn128 hb2 (dsg_rowsNodup hD) w hok hm hl h hc
    · rcases gapI_or P (ptC xss cls) with hv | ⟨p, hp, hv, _⟩
      · exact run_close w0 hR hg hr hn hn128 hP32 hb2 w hok hm hcs hl (by omega) h hc
      · exact run_scan w0 hR hg hr hn hn128 hP32 hb2 (dsg_rowsNodup hD) w hok hm hcs hl hp hv h hc
theorem heap_newR (W : World) (o : Obj) : (W.alloc o).heap[W.heap.size]? = some o := by
  show (W.heap.push o)[W.heap.size]? = some o
  simp

set_option maxRecDepth 100000 in
set_option maxHeartbeats 16000000 in
theorem specResolveDesign_c (w : World) (p : Int) (hp : -9223372036854775808 ≤ p ∧ p ≤ 9223372036854775807) (A : Option Addr) (n c : Nat) (R : Spine) (xss : List (List Int)) (hr : RdM w A c R xss) (hn : xss.length = n) (hw : WfM xss) (hz : (n : Int) + (tot xss : Nat) ≤ 1048576)
    (b : Int) (hbb : -9223372036854775808 ≤ b ∧ b ≤ 9223372036854775807) :
    Calls Try.prog 5 #[.agg #[.int .i64 p, .slice A n c], .int .i64 b] w (PostMC w (rsX p xss b) (rsC p xss b)) := by
  clear hw hz hbb hp
  obtain ⟨wa, hwa⟩ : ∃ wa, wa = w.alloc (.cells #[.int .i64 p, .slice A n c] 28) := ⟨_, rfl⟩
  have hXa : BoxD wa w.heap.size p A n c := by rw [hwa]; exact BoxD.made _ _ _ _ _ _
  have hBa : Below w.heap.size w wa := by rw [hwa]; exact below_boxed _ _
  have HXa := Lib.hid hXa
  have HBa := Lib.hid hBa
  have hO := l10Ok_c wa w.heap.size A n c R xss p hXa (hr.below hBa) hn
  rw [hwa] at hO
  rcases hd : dsgB p xss with _ | _
  · rw [hd] at hO
    have h1 : rsC p xss b = 1 := if_neg (by rw [hd]; simp)
    rw [show rsX p xss b = [] from if_neg (by rw [hd]; simp), h1]
    have HO := Lib.hid hO
    have HWa := Lib.hid hwa
    clear hO hwa hXa hBa hr hn hd h1
    go_enter Try.func5, Try.ntmps5
    go_wp2_with fail
    refine (HO.out).mono ?_
    rintro e w2 ⟨rfl, q, rfl⟩
    rw [← HWa.out]
    have HB2 := Lib.hid (below_drewN HBa.out q)
    go_wp2
    go_ret2
    exact ⟨⟨none, 0, 0, fun _ => (none, 0), rfl, rfl, OwnM.nil_ _ _ _⟩, HB2.out⟩
  rw [hd] at hO
  have hD := dsgB_true.1 hd
  obtain ⟨P, rfl⟩ : ∃ P : Nat, p = (P : Int) := ⟨p.toNat, by have := hD.1.1; omega⟩
  have HO := Lib.hid hO
  have HWa := Lib.hid hwa
  have HBd := Lib.hid (fun (W : World) => l09Budget_c b W)
  rcases hbd : bdB b with _ | _
  · have h1 : rsC (P : Int) xss b = 2 := by unfold rsC; rw [if_pos hd, if_neg (by rw [hbd]; simp)]
    rw [show rsX (P : Int) xss b = [] from by unfold rsX; rw [if_pos hd, if_neg (by rw [hbd]; simp)], h1]
    rw [hbd] at HBd
    clear hO hwa hXa hBa hr hn hd h1 hD hbd
    go_enter Try.func5, Try.ntmps5
    go_wp2_with fail
    refine (HO.out).mono ?_
    rintro e w2 ⟨rfl, q, rfl⟩
    rw [← HWa.out]
    have HB2 := Lib.hid (below_drewN HBa.out q)
    go_wp2_with fail
    refine (HBd.out _).mono ?_
    rintro e w3 ⟨rfl, rfl⟩
    go_wp2
    go_ret2
    exact ⟨⟨none, 0, 0, fun _ => (none, 0), rfl, rfl, OwnM.nil_ _ _ _⟩, HB2.out⟩
  rw [hbd] at HBd
  have hb1 := of_decide_eq_true hbd
  obtain ⟨l, rfl⟩ : ∃ l : Nat, b = (l : Int) := ⟨b.toNat, by omega⟩
  have hn128 : n ≤ 128 := by have := hD.2.1; omega
  have hl : l ≤ 20000 := by omega
  have HRu := Lib.hid (fun (W : World) (g gu : Nat) (hg : w.heap.size ≤ g) (K : Option Addr) (kc : Nat) (Rk : Spine) (A5 : Option Addr) (h : FdW w W W g P A n c gu K 0 kc 0 l false Rk [] (covV n (rsU [] []))) (hc : OwnI W w.heap.size A5 0 (sortL [])) =>
    (show Calls Try.prog 16 #[.pointer (some ⟨g, 0, none⟩), .slice A5 0 0] W (RunPost w W g P A n c gu l [] [] (rsF (P : Int) xss (l : Int))) from
      run_all w (gu := gu) hg hr hn hD hl (2 * xss.length + 1) W [] [] l 0 K kc Rk A5 0 (rsOk_start xss) (by simp [rsM, rsU]) (by omega) h hc))
  have HC := Lib.hid (show rsC (P : Int) xss (l : Int) = (match rsF (P : Int) xss (l : Int) with | .yes _ => 0 | .no _ => 3 | .full => 5) from by unfold rsC; rw [if_pos hd, if_pos hbd]; rfl)
  have HX := Lib.hid (show rsX (P : Int) xss (l : Int) = (match rsF (P : Int) xss (l : Int) with | .yes cs => cs.map sortL | .no _ => [] | .full => []) from by unfold rsX; rw [if_pos hd, if_pos hbd]; rfl)
  clear hO hwa hXa hBa hr hn hd hD hbd hb1
  go_enter Try.func5, Try.ntmps5
  go_wp2_with fail
  refine (HO.out).mono ?_
  rintro e w2 ⟨rfl, q, rfl⟩
  rw [← HWa.out]
  have HB2 := Lib.hid (below_drewN HBa.out q)
  have HX2 := Lib.hid (HXa.out.drewN q)
  generalize wa.drewN q = w2 at *
  have hc0 := HX2.out.c0
  have hc1 := HX2.out.c1
  have hclt : w.heap.size < w2.heap.size := HX2.out.lt
  go_wp2_with fail
  refine (HBd.out _).mono ?_
  rintro e w3 ⟨rfl, rfl⟩
  have hca0 := ((below_boxed w2 (.cells (madeCells #[.bool false] n) 4)).cell (p := ⟨w.heap.size, 0, none⟩) hclt).trans hc0
  have hca1 := ((below_boxed w2 (.cells (madeCells #[.bool false] n) 4)).cell (p := ⟨w.heap.size, 1, none⟩) hclt).trans hc1
  have hcb0 := ((below_boxed w2 (.cells #[] 43)).cell (p := ⟨w.heap.size, 0, none⟩) hclt).trans hc0
  have hcb1 := ((below_boxed w2 (.cells #[] 43)).cell (p := ⟨w.heap.size, 1, none⟩) hclt).trans hc1
  have hcd0 := ((below_boxed (w2.alloc (.cells (madeCells #[.bool false] n) 4)) (.cells #[] 43)).cell (p := ⟨w.heap.size, 0, none⟩) (by simp; omega)).trans hca0
  have hcd1 := ((below_boxed (w2.alloc (.cells (madeCells #[.bool false] n) 4)) (.cells #[] 43)).cell (p := ⟨w.heap.size, 1, none⟩) (by simp; omega)).trans hca1
  have hce0 := ((below_boxed (w2.alloc (.cells #[] 43)) (.cells (madeCells #[.bool false] n) 4)).cell (p := ⟨w.heap.size, 0, none⟩) (by simp; omega)).trans hcb0
  have hce1 := ((below_boxed (w2.alloc (.cells #[] 43)) (.cells (madeCells #[.bool false] n) 4)).cell (p := ⟨w.heap.size, 1, none⟩) (by simp; omega)).trans hcb1
  have hmk : ∀ W : World, (Instr.makeSlice 39 (.int .i64 (n : Int)) (.int .i64 (n : Int))).run Try.prog W = .ok (.slice (some ⟨W.heap.size, 0, none⟩) n n) (W.alloc (.cells (madeCells #[.bool false] n) 4)) := fun W => by
    obtain ⟨i, hi, hz, hz1, hz2⟩ := info_parts infoB
    have := run_makeSlice (P := Try.prog) (w := W) 39 4 i (.bool false) Try.underlying39 hi hz .i64 .i64 (n : Int) (n : Int) (by omega) (Int.le_refl _) (by rw [hz1]; omega) (by rw [hz2]; omega) (by omega)
    rw [hz1] at this
    simp only [Int.toNat_natCast, Nat.mul_one] at this
    exact this
  go_wp2
  go_cut [6] (fun s6 wx => ∃ (g gu : Nat) (K : Option Addr) (Rk : Spine), s6 = .pointer (some ⟨g, 0, none⟩) ∧ w.heap.size ≤ g ∧ Hid (FdW w wx wx g P A n c gu K 0 0 0 l false Rk [] (covV n (rsU [] []))))
  case first =>
    have HW1 := Lib.hid (show FdW w (((w2.alloc (.cells (madeCells #[.bool false] n) 4)).alloc (.cells #[] 43)).alloc (fdObj P A n c w2.heap.size (some ⟨w2.heap.size + 1, 0, none⟩) 0 0 0 l false)).drew (((w2.alloc (.cells (madeCells #[.bool false] n) 4)).alloc (.cells #[] 43)).alloc (fdObj P A n c w2.heap.size (some ⟨w2.heap.size + 1, 0, none⟩) 0 0 0 l false)).drew (w2.heap.size + 1 + 1) P A n c w2.heap.size (some ⟨w2.heap.size + 1, 0, none⟩) 0 0 0 l false (fun _ => (none, 0)) [] (covV n (rsU [] [])) from by
      have hm := OwnB.made w2 n (by unfold maxLen; omega) (lo := w.heap.size) HB2.out.size
      rw [← covV_nil] at hm
      have hz1 : (w2.alloc (.cells (madeCells #[.bool false] n) 4)).heap.size = w2.heap.size + 1 := World.size_alloc _ _
      have hk := OwnM.lit0 (w2.alloc (.cells (madeCells #[.bool false] n) 4)) (lo := w.heap.size) (by rw [hz1]; have := HB2.out.size; omega) (fun _ => (none, 0))
      rw [hz1] at hk
      have hnw := heap_newR ((w2.alloc (.cells (madeCells #[.bool false] n) 4)).alloc (.cells #[] 43)) (fdObj P A n c w2.heap.size (some ⟨w2.heap.size + 1, 0, none⟩) 0 0 0 l false)
      rw [show ((w2.alloc (.cells (madeCells #[.bool false] n) 4)).alloc (.cells #[] 43)).heap.size = w2.heap.size + 1 + 1 by simp] at hnw
      exact ⟨hnw, (hm.alloc _).alloc _, (hk.alloc _).drewN 1, (((HB2.out.alloc HB2.out.size _).alloc (by have := HB2.out.size; simp; omega) _).alloc (by have := HB2.out.size; simp; omega) _).drew, FrS.refl _ _⟩)
    have HW2 := Lib.hid (show FdW w (((w2.alloc (.cells #[] 43)).alloc (.cells (madeCells #[.bool false] n) 4)).alloc (fdObj P A n c (w2.heap.size + 1) (some ⟨w2.heap.size, 0, none⟩) 0 0 0 l false)).drew (((w2.alloc (.cells #[] 43)).alloc (.cells (madeCells #[.bool false] n) 4)).alloc (fdObj P A n c (w2.heap.size + 1) (some ⟨w2.heap.size, 0, none⟩) 0 0 0 l false)).drew (w2.heap.size + 1 + 1) P A n c (w2.heap.size + 1) (some ⟨w2.heap.size, 0, none⟩) 0 0 0 l false (fun _ => (none, 0)) [] (covV n (rsU [] [])) from by
      have hz1 : (w2.alloc (.cells #[] 43)).heap.size = w2.heap.size + 1 := World.size_alloc _ _
      have hm := OwnB.made (w2.alloc (.cells #[] 43)) n (by unfold maxLen; omega) (lo := w.heap.size) (by rw [hz1]; have := HB2.out.size; omega)
      rw [← covV_nil, hz1] at hm
      have hk := OwnM.lit0 w2 (lo := w.heap.size) HB2.out.size (fun _ => (none, 0))
      have hnw := heap_newR ((w2.alloc (.cells #[] 43)).alloc (.cells (madeCells #[.bool false] n) 4)) (fdObj P A n c (w2.heap.size + 1) (some ⟨w2.heap.size, 0, none⟩) 0 0 0 l false)
      rw [show ((w2.alloc (.cells #[] 43)).alloc (.cells (madeCells #[.bool false] n) 4)).heap.size = w2.heap.size + 1 + 1 by simp] at hnw
      exact ⟨hnw, hm.alloc _, ((hk.alloc _).alloc _).drewN 1, (((HB2.out.alloc HB2.out.size _).alloc (by have := HB2.out.size; simp; omega) _).alloc (by have := HB2.out.size; simp; omega) _).drew, FrS.refl _ _⟩)
    go_region
    all_goals (go_wp2_with fail; go_meet)
    all_goals first
      | exact ⟨_, _, _, _, rfl, by omega, HW1⟩
      | exact ⟨_, _, _, _, rfl, by omega, HW2⟩
  case rest =>
    obtain ⟨g, gu, K, Rk, rfl, hg, HF⟩ := hcut
    have HRn := Lib.hid (HRu.out (wc.alloc (.cells #[] 2)) g gu hg K 0 Rk (some ⟨wc.heap.size, 0, none⟩) (HF.out.alloc _).base (by rw [show sortL [] = ([] : List Int) from by simp [sortL]]; exact OwnI.lit0 wc HF.out.bl.size))
    clear hc0 hc1 hca0 hca1 hcb0 hcb1 hcd0 hcd1 hce0 hce1 hmk
    rcases hf : rsF (P : Int) xss (l : Int) with cs | l' | _
    · have hX := HX.out
      have hC := HC.out
      have hB := HRn.out
      rw [hf] at hX hC hB
      have HXe := Lib.hid hX
      have HCe := Lib.hid hC
      have HBb2 := Lib.hid hB
      clear hX hC hB hf
      go_wp2_with fail
      refine (HBb2.out).mono ?_
      rintro e w4 ⟨rfl, hfr, hbl, nd4, fl4, K4, kc4, R4, hob, hks⟩
      obtain ⟨_, _, _, r3, _, _, _⟩ := fd_cells hob
      have HKs := Lib.hid hks
      have HB4 := Lib.hid hbl
      have HLs := Lib.hid (show (cs.map sortL).length = cs.length from List.length_map ..)
      clear hfr hbl hob hks
      obtain ⟨s, hs⟩ : ∃ s, s = cs.length := ⟨_, rfl⟩
      rw [← hs] at r3 HLs
      clear hs
      go_wp2
      go_ret2
      rw [HXe.out, HCe.out]
      exact ⟨⟨K4, s, kc4, R4, rfl, HLs.out, HKs.out⟩, HB4.out⟩
    · skip
      have hX := HX.out
      have hC := HC.out
      have hB := HRn.out
      rw [hf] at hX hC hB
      have HXe := Lib.hid hX
      have HCe := Lib.hid hC
      have HBb2 := Lib.hid hB
      clear hX hC hB hf
      go_wp2_with fail
      refine (HBb2.out).mono ?_
      rintro e w4 ⟨rfl, nd4, K4, kc4, R4, _, h4⟩
      obtain ⟨_, _, _, _, _, _, r6⟩ := fd_cells h4.ob
      have HB4 := Lib.hid h4.bl
      clear h4
      go_wp2
      go_ret2
      rw [HXe.out, HCe.out]
      exact ⟨⟨none, 0, 0, fun _ => (none, 0), rfl, rfl, OwnM.nil_ _ _ _⟩, HB4.out⟩
    · skip
      have hX := HX.out
      have hC := HC.out
      have hB := HRn.out
      rw [hf] at hX hC hB
      have HXe := Lib.hid hX
      have HCe := Lib.hid hC
      have HBb2 := Lib.hid hB
      clear hX hC hB hf
      go_wp2_with fail
      refine (HBb2.out).mono ?_
      rintro e w4 ⟨rfl, K4, kc4, R4, h4⟩
      obtain ⟨_, _, _, _, _, _, r6⟩ := fd_cells h4.ob
      have HB4 := Lib.hid h4.bl
      clear h4
      go_wp2
      go_ret2
      rw [HXe.out, HCe.out]
      exact ⟨⟨none, 0, 0, fun _ => (none, 0), rfl, rfl, OwnM.nil_ _ _ _⟩, HB4.out⟩
end Go.Proofs.Ythgbfgdnljgicab
